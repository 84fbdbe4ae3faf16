/-
  Contracts of functions and plain laws that later parts of the proof use. The conditions stand in each theorem.
-/
import Derived.Test.YtjcdkbalhleeeaaGreatDoorG08
import Derived.Ground.NamesProg
import Derived.Shelf.Strconv.Itoa4
import Derived.Shelf.Strings.OnBuilder
import Derived.Shelf.Strings.Builder1
import Derived.WalkSmall
import Derived.Lib.AppendIntMem
import Derived.Shelf.Strconv.Itoa3
import Derived.Shelf.Small.Wraps
import Derived.Lib.Hide
import Derived.Laws.IdiomStrings
import Derived.BigQuiet
import Derived.Deep.DeepCutAuto
import Derived.BigRegion
import Derived.RegionTactic
import Derived.RangeFuncNested
import Derived.RangeFuncLeaves
import Derived.RangeFuncCalls
import Derived.RangeFuncBound
import Derived.Below
import Derived.Test.YtjcdkbalhleeeaaGreatDoorG01
namespace Go.Proofs
open Go.Shelf
def Tryz.lays173_ren : Go.Shelf.Ren := ⟨fun | 173 => 44 | 246 => 90 | 283 => 117 | 284 => 118 | 285 => 119 | 286 => 120 | 129 => 137 | 317 => 149 | 318 => 150 | 319 => 151 | 320 => 152 | 337 => 176 | 338 => 177 | n => n, fun | 2 => 2 | 3 => 3 | 9 => 9 | 4 => 4 | 171 => 177 | 0 => 0 | 53 => 178 | 37 => 87 | 5 => 5 | 173 => 181 | 212 => 207 | 51 => 197 | 20 => 20 | 213 => 208 | 46 => 166 | 232 => 245 | 233 => 246 | n => n, fun | 17 => 1 | 18 => 6 | 19 => 7 | n => n⟩
theorem Tryz.lays173 : LaysM.n173 Tryz.prog Tryz.lays173_ren := {
  mixed := by kernel_rfl
  f129 := Tryz.func137.trans (congrArg some (by kernel_rfl))
  f173 := Tryz.func44.trans (congrArg some (by kernel_rfl))
  f246 := Tryz.func90.trans (congrArg some (by kernel_rfl))
  f283 := Tryz.func117.trans (congrArg some (by kernel_rfl))
  f284 := Tryz.func118.trans (congrArg some (by kernel_rfl))
  f285 := Tryz.func119.trans (congrArg some (by kernel_rfl))
  f286 := Tryz.func120.trans (congrArg some (by kernel_rfl))
  f317 := Tryz.func149.trans (congrArg some (by kernel_rfl))
  f318 := Tryz.func150.trans (congrArg some (by kernel_rfl))
  f319 := Tryz.func151.trans (congrArg some (by kernel_rfl))
  f320 := Tryz.func152.trans (congrArg some (by kernel_rfl))
  f337 := Tryz.func176.trans (congrArg some (by kernel_rfl))
  f338 := Tryz.func177.trans (congrArg some (by kernel_rfl))
  t0 := Tryz.underlying0
  a0 := Tryz.isAgg0
  z0 := Tryz.sizeOf0
  v0 := Tryz.zeroValue0
  t2 := Tryz.underlying2
  a2 := Tryz.isAgg2
  z2 := Tryz.sizeOf2
  v2 := Tryz.zeroValue2
  t3 := Tryz.underlying3
  a3 := Tryz.isAgg3
  z3 := Tryz.sizeOf3
  v3 := Tryz.zeroValue3
  t4 := Tryz.underlying4
  a4 := Tryz.isAgg4
  z4 := Tryz.sizeOf4
  v4 := Tryz.zeroValue4
  t5 := Tryz.underlying5
  a5 := Tryz.isAgg5
  z5 := Tryz.sizeOf5
  v5 := Tryz.zeroValue5
  t9 := Tryz.underlying9
  a9 := Tryz.isAgg9
  z9 := Tryz.sizeOf9
  v9 := Tryz.zeroValue9
  t20 := Tryz.underlying20
  a20 := Tryz.isAgg20
  z20 := Tryz.sizeOf20
  v20 := Tryz.zeroValue20
  t37 := Tryz.underlying87
  a37 := Tryz.isAgg87
  z37 := Tryz.sizeOf87
  v37 := Tryz.zeroValue87
  t46 := Tryz.underlying166
  a46 := Tryz.isAgg166
  z46 := Tryz.sizeOf166
  v46 := Tryz.zeroValue166
  t51 := Tryz.underlying197
  a51 := Tryz.isAgg197
  z51 := Tryz.sizeOf197
  v51 := Tryz.zeroValue197
  t53 := Tryz.underlying178
  a53 := Tryz.isAgg178
  z53 := Tryz.sizeOf178
  v53 := Tryz.zeroValue178
  t171 := Tryz.underlying177
  a171 := Tryz.isAgg177
  z171 := Tryz.sizeOf177
  v171 := Tryz.zeroValue177
  t173 := Tryz.underlying181
  a173 := Tryz.isAgg181
  z173 := Tryz.sizeOf181
  v173 := Tryz.zeroValue181
  t212 := Tryz.underlying207
  a212 := Tryz.isAgg207
  z212 := Tryz.sizeOf207
  v212 := Tryz.zeroValue207
  t213 := Tryz.underlying208
  a213 := Tryz.isAgg208
  z213 := Tryz.sizeOf208
  t232 := Tryz.underlying245
  a232 := Tryz.isAgg245
  z232 := Tryz.sizeOf245
  v232 := Tryz.zeroValue245
  t233 := Tryz.underlying246
  a233 := Tryz.isAgg246
  z233 := Tryz.sizeOf246
  v233 := Tryz.zeroValue246
  g17 := by kernel_rfl
  g18 := by kernel_rfl
  g19 := by kernel_rfl
  i0 := by kernel_rfl
  i2 := by kernel_rfl
  i3 := by kernel_rfl
  i4 := by kernel_rfl
  i5 := by kernel_rfl
  i9 := by kernel_rfl
  i20 := by kernel_rfl
  i37 := by kernel_rfl
  i46 := by kernel_rfl
  i51 := by kernel_rfl
  i53 := by kernel_rfl
  i171 := by kernel_rfl
  i173 := by kernel_rfl
  i212 := by kernel_rfl
  i232 := by kernel_rfl
  i233 := by kernel_rfl
  m17 := by kernel_rfl
  m18 := by kernel_rfl
  m19 := by kernel_rfl
  }
def Tryz.lays156_ren : Go.Shelf.Ren := ⟨fun | 156 => 42 | 165 => 89 | 166 => 41 | 169 => 45 | 240 => 88 | 241 => 116 | 276 => 115 | 277 => 148 | n => n, fun | 31 => 22 | 9 => 9 | 3 => 3 | 4 => 4 | 0 => 0 | 20 => 20 | 72 => 105 | 76 => 108 | 70 => 103 | 37 => 87 | 75 => 107 | 127 => 154 | 164 => 175 | 5 => 5 | 80 => 84 | n => n, fun | n => n⟩
theorem Tryz.lays156 : Lays.n156 Tryz.prog Tryz.lays156_ren := {
  mixed := by kernel_rfl
  f156 := Tryz.func42.trans (congrArg some (by kernel_rfl))
  f165 := Tryz.func89.trans (congrArg some (by kernel_rfl))
  f166 := Tryz.func41.trans (congrArg some (by kernel_rfl))
  f169 := Tryz.func45.trans (congrArg some (by kernel_rfl))
  f240 := Tryz.func88.trans (congrArg some (by kernel_rfl))
  f241 := Tryz.func116.trans (congrArg some (by kernel_rfl))
  f276 := Tryz.func115.trans (congrArg some (by kernel_rfl))
  f277 := Tryz.func148.trans (congrArg some (by kernel_rfl))
  t0 := Tryz.underlying0
  a0 := Tryz.isAgg0
  z0 := Tryz.sizeOf0
  v0 := Tryz.zeroValue0
  t3 := Tryz.underlying3
  a3 := Tryz.isAgg3
  z3 := Tryz.sizeOf3
  v3 := Tryz.zeroValue3
  t4 := Tryz.underlying4
  a4 := Tryz.isAgg4
  z4 := Tryz.sizeOf4
  v4 := Tryz.zeroValue4
  t9 := Tryz.underlying9
  a9 := Tryz.isAgg9
  z9 := Tryz.sizeOf9
  v9 := Tryz.zeroValue9
  t20 := Tryz.underlying20
  a20 := Tryz.isAgg20
  z20 := Tryz.sizeOf20
  v20 := Tryz.zeroValue20
  t31 := Tryz.underlying22
  a31 := Tryz.isAgg22
  z31 := Tryz.sizeOf22
  v31 := Tryz.zeroValue22
  t37 := Tryz.underlying87
  a37 := Tryz.isAgg87
  z37 := Tryz.sizeOf87
  v37 := Tryz.zeroValue87
  t70 := Tryz.underlying103
  a70 := Tryz.isAgg103
  z70 := Tryz.sizeOf103
  v70 := Tryz.zeroValue103
  t72 := Tryz.underlying105
  a72 := Tryz.isAgg105
  z72 := Tryz.sizeOf105
  v72 := Tryz.zeroValue105
  t75 := Tryz.underlying107
  a75 := Tryz.isAgg107
  z75 := Tryz.sizeOf107
  v75 := Tryz.zeroValue107
  t76 := Tryz.underlying108
  a76 := Tryz.isAgg108
  z76 := Tryz.sizeOf108
  v76 := Tryz.zeroValue108
  t127 := Tryz.underlying154
  a127 := Tryz.isAgg154
  z127 := Tryz.sizeOf154
  v127 := Tryz.zeroValue154
  t164 := Tryz.underlying175
  a164 := Tryz.isAgg175
  z164 := Tryz.sizeOf175
  v164 := Tryz.zeroValue175
  }
def Tryz.lays166_ren : Go.Shelf.Ren := ⟨fun | 166 => 41 | 240 => 88 | 276 => 115 | n => n, fun | 70 => 103 | 9 => 9 | 3 => 3 | 75 => 107 | 0 => 0 | 72 => 105 | 37 => 87 | 4 => 4 | 164 => 175 | 80 => 84 | 5 => 5 | 20 => 20 | n => n, fun | n => n⟩
theorem Tryz.lays166 : Lays.n166 Tryz.prog Tryz.lays166_ren := {
  mixed := by kernel_rfl
  f166 := Tryz.func41.trans (congrArg some (by kernel_rfl))
  f240 := Tryz.func88.trans (congrArg some (by kernel_rfl))
  f276 := Tryz.func115.trans (congrArg some (by kernel_rfl))
  t0 := Tryz.underlying0
  a0 := Tryz.isAgg0
  z0 := Tryz.sizeOf0
  v0 := Tryz.zeroValue0
  t3 := Tryz.underlying3
  a3 := Tryz.isAgg3
  z3 := Tryz.sizeOf3
  v3 := Tryz.zeroValue3
  t4 := Tryz.underlying4
  a4 := Tryz.isAgg4
  z4 := Tryz.sizeOf4
  v4 := Tryz.zeroValue4
  t9 := Tryz.underlying9
  a9 := Tryz.isAgg9
  z9 := Tryz.sizeOf9
  v9 := Tryz.zeroValue9
  t20 := Tryz.underlying20
  a20 := Tryz.isAgg20
  z20 := Tryz.sizeOf20
  v20 := Tryz.zeroValue20
  t37 := Tryz.underlying87
  a37 := Tryz.isAgg87
  z37 := Tryz.sizeOf87
  v37 := Tryz.zeroValue87
  t70 := Tryz.underlying103
  a70 := Tryz.isAgg103
  z70 := Tryz.sizeOf103
  v70 := Tryz.zeroValue103
  t72 := Tryz.underlying105
  a72 := Tryz.isAgg105
  z72 := Tryz.sizeOf105
  v72 := Tryz.zeroValue105
  t75 := Tryz.underlying107
  a75 := Tryz.isAgg107
  z75 := Tryz.sizeOf107
  v75 := Tryz.zeroValue107
  t164 := Tryz.underlying175
  a164 := Tryz.isAgg175
  z164 := Tryz.sizeOf175
  v164 := Tryz.zeroValue175
  }
def Tryz.lays169_ren : Go.Shelf.Ren := ⟨fun | 169 => 45 | n => n, fun | 70 => 103 | 9 => 9 | 0 => 0 | 72 => 105 | 37 => 87 | 127 => 154 | 3 => 3 | 5 => 5 | n => n, fun | n => n⟩
theorem Tryz.lays169 : Lays.n169 Tryz.prog Tryz.lays169_ren := {
  mixed := by kernel_rfl
  f169 := Tryz.func45.trans (congrArg some (by kernel_rfl))
  t0 := Tryz.underlying0
  a0 := Tryz.isAgg0
  z0 := Tryz.sizeOf0
  v0 := Tryz.zeroValue0
  t3 := Tryz.underlying3
  a3 := Tryz.isAgg3
  z3 := Tryz.sizeOf3
  v3 := Tryz.zeroValue3
  t9 := Tryz.underlying9
  a9 := Tryz.isAgg9
  z9 := Tryz.sizeOf9
  v9 := Tryz.zeroValue9
  t37 := Tryz.underlying87
  a37 := Tryz.isAgg87
  z37 := Tryz.sizeOf87
  v37 := Tryz.zeroValue87
  t70 := Tryz.underlying103
  a70 := Tryz.isAgg103
  z70 := Tryz.sizeOf103
  v70 := Tryz.zeroValue103
  t72 := Tryz.underlying105
  a72 := Tryz.isAgg105
  z72 := Tryz.sizeOf105
  v72 := Tryz.zeroValue105
  t127 := Tryz.underlying154
  a127 := Tryz.isAgg154
  z127 := Tryz.sizeOf154
  v127 := Tryz.zeroValue154
  }
theorem Tryz.builder_extra156 : Builder.Extra Tryz.prog Tryz.lays156_ren := {
  sizeBuilder := by kernel_rfl
  liesBuilder := by kernel_rfl
  t5 := Tryz.underlying5
  a5 := Tryz.isAgg5
  z5 := Tryz.sizeOf5
  v5 := Tryz.zeroValue5
  infoByte := by kernel_rfl
  cellsByte := by kernel_rfl
  sizeByte := by kernel_rfl
  neB5 := by decide
  }
theorem Tryz.builder_extra166 : Builder.Extra Tryz.prog Tryz.lays166_ren := {
  sizeBuilder := by kernel_rfl
  liesBuilder := by kernel_rfl
  t5 := Tryz.underlying5
  a5 := Tryz.isAgg5
  z5 := Tryz.sizeOf5
  v5 := Tryz.zeroValue5
  infoByte := by kernel_rfl
  cellsByte := by kernel_rfl
  sizeByte := by kernel_rfl
  neB5 := by decide
  }
theorem Tryz.builder_extra169 : Builder.Extra Tryz.prog Tryz.lays169_ren := {
  sizeBuilder := by kernel_rfl
  liesBuilder := by kernel_rfl
  t5 := Tryz.underlying5
  a5 := Tryz.isAgg5
  z5 := Tryz.sizeOf5
  v5 := Tryz.zeroValue5
  infoByte := by kernel_rfl
  cellsByte := by kernel_rfl
  sizeByte := by kernel_rfl
  neB5 := by decide
  }
end Go.Proofs
namespace Go.Proofs.YtjcdkbalhleeeaaGreatDoor
open Go.Proofs Go.RowKit Go.Shelf Go.Sort Go.Lib

/-- A text's bytes; a text as a value. -/
def bs (l : List UInt8) : ByteArray := ⟨l.toArray⟩
abbrev strV (l : List UInt8) : Value := .string (bs l)
theorem bs_data (l : List UInt8) : (bs l).data.toList = l := by simp [bs]
theorem bs_list (l : List UInt8) : (bs l).toList = l := by rw [ByteArray.toList_eq, bs_data]
theorem bs_size (l : List UInt8) : (bs l).size = l.length := by simp [bs, ByteArray.size]
theorem bs_of (s : ByteArray) : bs s.data.toList = s := by simp [bs]
theorem bs_app (a b : List UInt8) : bs a ++ bs b = bs (a ++ b) := by unfold bs; rw [ByteArray.mk_append_mk]
/-- One text behind another. -/
theorem run_add (a b : List UInt8) (h : a.length + b.length ≤ 9223372036854775807) (w : World) : (Op.stringOp .add (bs a) (bs b)).run Tryz.prog w = .ok (.string (bs (a ++ b))) w := by
  rw [run_string_add_sum w _ _ (by rw [bs_size, bs_size]; exact h), bs_app]
/-- A slice of texts reads as a list. -/
structure Sd (w : World) (A : Option Addr) (c : Nat) (l : List (List UInt8)) : Prop where
  le : l.length ≤ c
  cap : c ≤ 9223372036854775807
  cells : Cells w A (l.map strV)
section
variable {w w' : World} {A : Option Addr} {c : Nat} {l : List (List UInt8)}
theorem Sd.keep (h : Sd w A c l) (hk : ∀ p : Addr, p.block < w.heap.size → w'.cell? p = w.cell? p) : Sd w' A c l := ⟨h.le, h.cap, h.cells.keep hk⟩
theorem Sd.below (h : Sd w A c l) (hb : Below w.heap.size w w') : Sd w' A c l := h.keep fun _ hp => hb.cell hp
theorem Sd.at_ (h : Sd w A c l) {k : Nat} (hk : k < l.length) : ∃ ad, A = some ad ∧ w.cell? (ad.add k) = some (strV l[k]) := by
  obtain ⟨ad, e, hc⟩ := h.cells.at_ (k := k) (by simpa using hk)
  exact ⟨ad, e, by simpa using hc⟩
theorem Sd.of_own {base : Nat} {e : TypeId} {v : Value} {n : Nat} (h : w.ownsRow base e 1 v n (l.map strV)) (hn : n = l.length) :
    ∃ A c, v = .slice A l.length c ∧ Sd w A c l ∧ (∀ ad, A = some ad → ∃ g, ad = ⟨g, 0, none⟩ ∧ base ≤ g) ∧ (A = none → l.length = 0 ∧ c = 0) := by
  subst hn
  have h' := h
  rcases h.2 with ⟨rfl, hn⟩ | ⟨g, cap, cur, rfl, hb, hg, hnc, hcm, hcs, htake⟩
  · refine ⟨none, 0, by rw [hn], ?_, by simp, fun _ => ⟨hn, rfl⟩⟩
    have : l = [] := List.eq_nil_of_length_eq_zero hn
    subst this
    exact ⟨by simp, by omega, fun h => by simp at h⟩
  · exact ⟨_, _, rfl, ⟨hnc, by unfold maxLen at hcm; omega, fun _ => ⟨_, rfl, h'.cells (g := g) rfl⟩⟩, fun ad e => by cases e; exact ⟨_, rfl, hb⟩, by simp⟩
end
theorem Sd.of_own' {w : World} {base g cap n : Nat} {e : TypeId} {l : List (List UInt8)} (h : w.ownsRow base e 1 (.slice (some ⟨g, 0, none⟩) n cap) n (l.map strV)) (hn : n = l.length) : Sd w (some ⟨g, 0, none⟩) cap l := by
  obtain ⟨A, c, e1, h1, _⟩ := Sd.of_own h hn
  injection e1 with e1 e2 e3
  subst e1 e3
  exact h1
theorem strs_one {l : List (List UInt8)} : ∀ u ∈ l.map strV, u.oneCell' = true := by
  intro u hu
  obtain ⟨x, _, rfl⟩ := List.mem_map.1 hu
  rfl
/-- The table of powers of ten that the library reads. -/
def Tab (w : World) : Prop := TabBelow Tryz.prog w.heap.size w "internal/strconv.uint64pow10" .u64 pow10Tab
theorem Tab.below {w w' : World} (h : Tab w) (hb : Below w.heap.size w w') : Tab w' := fun w'' h' => h w'' (hb.trans (h'.mono hb.size))
theorem format_int (n : Int) (h0 : -9223372036854775808 ≤ n) (h1 : n ≤ 9223372036854775807) (w : World) (ht : Tab w) :
    Calls Tryz.prog 44 #[.int .i64 n, .int .i64 10] w fun e w' => e = .returned (.string (bs (itoa n))) ∧ Below w.heap.size w w' :=
  (Any.strconv_FormatInt_10 Tryz.lays173 n h0 h1 w ht.here).mono fun e w' ⟨h, k, os, hw⟩ => ⟨h, by rw [hw]; exact below_grow _ _ (Nat.le_refl _) _ _⟩
theorem strings_Join (bk o c : Nat) (xs : List (List UInt8)) (sep : List UInt8) (w : World) (hr : Sd w (some ⟨bk, o, none⟩) c xs) (hn : xs ≠ []) (hlen : (join xs sep).length ≤ 140737488355328) (hN : xs.length ≤ 140737488355328) :
    Calls Tryz.prog 42 #[.slice (some ⟨bk, o, none⟩) xs.length c, .string (bs sep)] w fun e w' => e = .returned (.string (bs (join xs sep))) ∧ Below w.heap.size w w' := by
  have e1 : (xs.map bs).map (·.data.toList) = xs := by
    rw [List.map_map]
    conv => rhs; rw [← List.map_id xs]
    exact List.map_congr_left fun l _ => bs_data l
  have hc : ∀ (j : Nat) x, (xs.map bs)[j]? = some x → w.cell? ⟨bk, o + j, none⟩ = some (.string x) := by
    intro j x hx
    obtain ⟨ad, ea, hc⟩ := hr.cells (by simp; exact List.length_pos_iff.2 hn)
    injection ea with ea
    subst ea
    have := hc j (.string x) (by rw [List.getElem?_map] at hx ⊢; cases h : xs[j]? <;> simp_all)
    have ea : (⟨bk, o, none⟩ : Addr).add j = ⟨bk, o + j, none⟩ := by unfold Addr.add; split <;> simp_all
    rwa [ea] at this
  have hbk : bk < w.heap.size := by
    have h0 : 0 < xs.length := List.length_pos_iff.2 hn
    have := hc 0 (bs xs[0]) (by simp [List.getElem?_eq_getElem h0])
    exact World.block_lt_of_cell? _ _ this
  have := Any.strings_Join Tryz.lays156 Tryz.builder_extra156 bk o c (xs.map bs) (bs sep) w hc hbk (by simpa using hN) (by simpa using hr.le) (by rw [e1, bs_data]; exact hlen)
  rw [e1, bs_data, List.length_map] at this
  exact this
/-- A builder that the call has made, and what it holds. -/
def Bld (b : Nat) (l : List UInt8) (w : World) : Prop := IsBuilder 105 5 b b (byteCells l) w
theorem Bld.below {b : Nat} {l : List UInt8} {w w' : World} (h : Bld b l w) (hb : Below w.heap.size w w') : Bld b l w' := by
  have go : ∀ p, BuilderAt 105 5 b b p (byteCells l) w → BuilderAt 105 5 b b p (byteCells l) w' := by
    rintro p ⟨h1, v, h2, h3, h4⟩
    exact ⟨h1, v, (hb.block b (Array.getElem?_eq_some_iff.1 h2).1).trans h2, own_below h3 hb, h4⟩
  rcases h with h | h
  · exact .inl (go _ h)
  · exact .inr (go _ h)
theorem Bld.lt {b : Nat} {l : List UInt8} {w : World} (h : Bld b l w) : b < w.heap.size := by
  rcases h with h | h
  · exact h.lt
  · exact h.lt
theorem builder_write (b : Nat) (l s : List UInt8) (w : World) (h : Bld b l w) (hlen : l.length + s.length ≤ 140737488355328) :
    Calls Tryz.prog 41 #[.pointer (some ⟨b, 0, none⟩), .string (bs s)] w fun e w' => e = .returned (.tuple #[.int .i64 s.length, .nilIface]) ∧ Bld b (l ++ s) w' ∧ Below b w w' := by
  refine (Any.Builder_WriteString Tryz.lays166 Tryz.builder_extra166 b b (byteCells l) (bs s) w h (by rw [bs_size]; simpa [byteCells] using hlen) (Nat.le_of_lt h.lt)).mono ?_
  rintro e w' ⟨rfl, h1, h2⟩
  refine ⟨by rw [bs_size], .inr ?_, h2⟩
  have e : byteCells l ++ strCells (bs s) = byteCells (l ++ s) := by rw [byteCells_append]; congr 1
  rw [e] at h1
  exact h1
theorem builder_string (b : Nat) (l : List UInt8) (w : World) (h : Bld b l w) :
    Calls Tryz.prog 45 #[.pointer (some ⟨b, 0, none⟩)] w fun e w' => e = .returned (.string (bs l)) ∧ Below b w w' :=
  Any.Builder_String_any Tryz.lays169 Tryz.builder_extra169 b b l w h (Nat.le_of_lt h.lt)
end Go.Proofs.YtjcdkbalhleeeaaGreatDoor

namespace Go.Proofs
open Go.Shelf
def Tryz.lays171_ren : Go.Shelf.Ren := ⟨fun | 171 => 67 | 243 => 108 | 246 => 90 | 283 => 117 | 284 => 118 | 285 => 119 | 286 => 120 | 129 => 137 | 317 => 149 | 318 => 150 | 319 => 151 | 320 => 152 | 337 => 176 | 338 => 177 | n => n, fun | 3 => 3 | 9 => 9 | 2 => 2 | 4 => 4 | 171 => 177 | 0 => 0 | 53 => 178 | 37 => 87 | 5 => 5 | 173 => 181 | 212 => 207 | 51 => 197 | 20 => 20 | 213 => 208 | 46 => 166 | 232 => 245 | 233 => 246 | n => n, fun | 17 => 1 | 18 => 6 | 19 => 7 | n => n⟩
theorem Tryz.lays171 : LaysM.n171 Tryz.prog Tryz.lays171_ren := {
  mixed := by kernel_rfl
  f129 := Tryz.func137.trans (congrArg some (by kernel_rfl))
  f171 := Tryz.func67.trans (congrArg some (by kernel_rfl))
  f243 := Tryz.func108.trans (congrArg some (by kernel_rfl))
  f246 := Tryz.func90.trans (congrArg some (by kernel_rfl))
  f283 := Tryz.func117.trans (congrArg some (by kernel_rfl))
  f284 := Tryz.func118.trans (congrArg some (by kernel_rfl))
  f285 := Tryz.func119.trans (congrArg some (by kernel_rfl))
  f286 := Tryz.func120.trans (congrArg some (by kernel_rfl))
  f317 := Tryz.func149.trans (congrArg some (by kernel_rfl))
  f318 := Tryz.func150.trans (congrArg some (by kernel_rfl))
  f319 := Tryz.func151.trans (congrArg some (by kernel_rfl))
  f320 := Tryz.func152.trans (congrArg some (by kernel_rfl))
  f337 := Tryz.func176.trans (congrArg some (by kernel_rfl))
  f338 := Tryz.func177.trans (congrArg some (by kernel_rfl))
  t0 := Tryz.underlying0
  a0 := Tryz.isAgg0
  z0 := Tryz.sizeOf0
  v0 := Tryz.zeroValue0
  t2 := Tryz.underlying2
  a2 := Tryz.isAgg2
  z2 := Tryz.sizeOf2
  v2 := Tryz.zeroValue2
  t3 := Tryz.underlying3
  a3 := Tryz.isAgg3
  z3 := Tryz.sizeOf3
  v3 := Tryz.zeroValue3
  t4 := Tryz.underlying4
  a4 := Tryz.isAgg4
  z4 := Tryz.sizeOf4
  v4 := Tryz.zeroValue4
  t5 := Tryz.underlying5
  a5 := Tryz.isAgg5
  z5 := Tryz.sizeOf5
  v5 := Tryz.zeroValue5
  t9 := Tryz.underlying9
  a9 := Tryz.isAgg9
  z9 := Tryz.sizeOf9
  v9 := Tryz.zeroValue9
  t20 := Tryz.underlying20
  a20 := Tryz.isAgg20
  z20 := Tryz.sizeOf20
  v20 := Tryz.zeroValue20
  t37 := Tryz.underlying87
  a37 := Tryz.isAgg87
  z37 := Tryz.sizeOf87
  v37 := Tryz.zeroValue87
  t46 := Tryz.underlying166
  a46 := Tryz.isAgg166
  z46 := Tryz.sizeOf166
  v46 := Tryz.zeroValue166
  t51 := Tryz.underlying197
  a51 := Tryz.isAgg197
  z51 := Tryz.sizeOf197
  v51 := Tryz.zeroValue197
  t53 := Tryz.underlying178
  a53 := Tryz.isAgg178
  z53 := Tryz.sizeOf178
  v53 := Tryz.zeroValue178
  t171 := Tryz.underlying177
  a171 := Tryz.isAgg177
  z171 := Tryz.sizeOf177
  v171 := Tryz.zeroValue177
  t173 := Tryz.underlying181
  a173 := Tryz.isAgg181
  z173 := Tryz.sizeOf181
  v173 := Tryz.zeroValue181
  t212 := Tryz.underlying207
  a212 := Tryz.isAgg207
  z212 := Tryz.sizeOf207
  v212 := Tryz.zeroValue207
  t213 := Tryz.underlying208
  a213 := Tryz.isAgg208
  z213 := Tryz.sizeOf208
  t232 := Tryz.underlying245
  a232 := Tryz.isAgg245
  z232 := Tryz.sizeOf245
  v232 := Tryz.zeroValue245
  t233 := Tryz.underlying246
  a233 := Tryz.isAgg246
  z233 := Tryz.sizeOf246
  v233 := Tryz.zeroValue246
  g17 := by kernel_rfl
  g18 := by kernel_rfl
  g19 := by kernel_rfl
  i0 := by kernel_rfl
  i2 := by kernel_rfl
  i3 := by kernel_rfl
  i4 := by kernel_rfl
  i5 := by kernel_rfl
  i9 := by kernel_rfl
  i20 := by kernel_rfl
  i37 := by kernel_rfl
  i46 := by kernel_rfl
  i51 := by kernel_rfl
  i53 := by kernel_rfl
  i171 := by kernel_rfl
  i173 := by kernel_rfl
  i212 := by kernel_rfl
  i232 := by kernel_rfl
  i233 := by kernel_rfl
  m17 := by kernel_rfl
  m18 := by kernel_rfl
  m19 := by kernel_rfl
  }
def Tryz.lays103_ren : Go.Shelf.Ren := ⟨fun | 103 => 27 | 210 => 66 | 206 => 107 | n => n, fun | 9 => 9 | 4 => 4 | 24 => 81 | 3 => 3 | n => n, fun | n => n⟩
theorem Tryz.lays103 : Lays.n103 Tryz.prog Tryz.lays103_ren := {
  mixed := by kernel_rfl
  f103 := Tryz.func27.trans (congrArg some (by kernel_rfl))
  f206 := Tryz.func107.trans (congrArg some (by kernel_rfl))
  f210 := Tryz.func66.trans (congrArg some (by kernel_rfl))
  t3 := Tryz.underlying3
  a3 := Tryz.isAgg3
  z3 := Tryz.sizeOf3
  v3 := Tryz.zeroValue3
  t4 := Tryz.underlying4
  a4 := Tryz.isAgg4
  z4 := Tryz.sizeOf4
  v4 := Tryz.zeroValue4
  t9 := Tryz.underlying9
  a9 := Tryz.isAgg9
  z9 := Tryz.sizeOf9
  v9 := Tryz.zeroValue9
  t24 := Tryz.underlying81
  a24 := Tryz.isAgg81
  z24 := Tryz.sizeOf81
  v24 := Tryz.zeroValue81
  }
end Go.Proofs
namespace Go.Proofs.YtjcdkbalhleeeaaGreatDoor
open Go.RowKit Go.Lib

theorem itoa_call (n : Int) (h0 : -9223372036854775808 ≤ n) (h1 : n ≤ 9223372036854775807) (w : World) (ht : Tab w) :
    Calls Tryz.prog 67 #[.int .i64 n] w fun e w' => e = .returned (.string (bs (itoa n))) ∧ Below w.heap.size w w' :=
  (Any.strconv_Itoa Tryz.lays171 n h0 h1 w ht.here).mono fun e w' ⟨h, k, os, hw⟩ => ⟨h, by rw [hw]; exact below_grow _ _ (Nat.le_refl _) _ _⟩
theorem cut_prefix (s : List UInt8) (w : World) :
    Calls Tryz.prog 27 #[.string (bs s), .string (bs [61, 32])] w fun e w' => e = .returned (.tuple #[.string (bs (if s.take 2 = [61, 32] then s.drop 2 else s)), .bool (decide (s.take 2 = [61, 32]))]) ∧ w' = w := by
  refine (Any.strings_CutPrefix Tryz.lays103 (bs s) (bs [61, 32]) w).mono ?_
  rintro e w' ⟨rfl, rfl⟩
  refine ⟨?_, rfl⟩
  rw [bs_data, bs_data]
  have h1 : hasPrefix s [61, 32] = decide (s.take 2 = [61, 32]) := by
    unfold hasPrefix
    rcases s with _ | ⟨a, _ | ⟨b, s⟩⟩
    · rfl
    · simp [List.isPrefixOf]
    · rw [Bool.eq_iff_iff, decide_eq_true_iff]
      simp only [List.isPrefixOf, Bool.and_eq_true, beq_iff_eq, List.take_succ_cons, List.take_zero, List.cons.injEq, and_true]
      constructor <;> (rintro ⟨h1, h2⟩; exact ⟨h1.symm, h2.symm⟩)
  have h2 : trimPrefix s [61, 32] = if s.take 2 = [61, 32] then s.drop 2 else s := by
    unfold trimPrefix
    rw [h1]
    by_cases h : s.take 2 = [61, 32] <;> simp [h]
  rw [h1, h2]
  rfl
end Go.Proofs.YtjcdkbalhleeeaaGreatDoor

namespace Go.Proofs.YtjcdkbalhleeeaaGreatDoor
open Go.Proofs Go.RowKit
open Go.Lib (itoa join)

theorem und_strs : Tryz.prog.underlying 22 = some (.slice 9) := by kernel_rfl
theorem inf_str : (Tryz.prog.info? 9).map (fun i => (i.zero, i.size, i.bytes)) = some (some (.string ByteArray.empty), 1, 16) := by kernel_rfl

set_option maxRecDepth 100000 in
theorem text_words (A : Option Addr) (l : List Int) (c : Nat) (w : World) (hr : Rd w A c l) (hs : smallB 999999 l = true) (hn : l.length ≤ 1000) (ht : Tab w) :
    Calls Tryz.prog 43 #[.slice A l.length c] w fun e w' => ∃ v, e = .returned v ∧ w'.ownsRow w.heap.size 9 1 v l.length ((l.map itoa).map strV) ∧ Below w.heap.size w w' := by
  have HR := Lib.hid hr
  have HT := Lib.hid ht
  obtain ⟨hl, hc, hsm, hcell⟩ := hr
  go_enter Tryz.func43, Tryz.ntmps43
  go_wp2_with fail
  go_loopw [3, 8] (fun o i wx => ∃ (k : Nat), k ≤ l.length ∧ i = .int .i64 k ∧ wx.ownsRow w.heap.size 9 1 o k (((l.take k).map itoa).map strV) ∧ Below w.heap.size w wx) (fun _ i _ => l.length - (intOf i).toNat)
  case atStart => exact ⟨0, by omega, rfl, by simpa using World.ownsRow_nil _ _ _ _, Below.refl _ _⟩
  case round =>
    obtain ⟨k, hk, rfl, hown, hbel⟩ := hrel
    rename World => U
    have HB := Lib.hid hbel
    have HO := Lib.hid hown
    have zB := hbel.size
    clear hown hbel
    by_cases hlt : k < l.length
    · obtain ⟨ad, e0, hcl⟩ := (HR.out.below HB.out).at_ hlt
      obtain ⟨hx1, hx2⟩ := smallB_at hs hlt
      subst e0
      have hi0 : (k : Int) < (l.length : Int) := by omega
      have HF := Lib.hid (format_int l[k] (by omega) (by omega) U (HT.out.below HB.out))
      have htk : ((l.take (k + 1)).map itoa).map strV = ((l.take k).map itoa).map strV ++ [Value.string (bs (itoa l[k]))] := by rw [List.take_succ_eq_append_getElem hlt, List.map_append, List.map_append]; rfl
      have HTK := Lib.hid htk
      clear htk
      generalize bs (itoa l[k]) = sx at *
      generalize l[k] = x at *
      go_wp2_with (first
        | (go_at_call 44; refine HF.out.mono ?_; rintro e w1 ⟨rfl, hb1⟩)
        | (at_builtin; refine list_app1 rfl (.tmp 12) (.tmp 15) 22 9 (.string ByteArray.empty) 16 und_strs inf_str rfl rfl w.heap.size _ k _ (.string sx) rfl (own_below HO.out (hb1.alloc hb1.size _)) _ 1 rfl (cell_new1 _ _ _) rfl (by unfold maxLen; omega) (by omega) (by have := hb1.size; simp; omega) ?_; intro g cap w5 hown5 hg5 hat5 hlt5))
      go_wp2_with fail
      go_roundw
      case rel => exact ⟨k + 1, by omega, by go_num, by rw [HTK.out]; exact hown5, ((HB.out.trans (hb1.mono zB)).alloc (by have := hb1.size; omega) _).grown hg5 (by have := hb1.size; simp; omega) (own_ge HO.out (Nat.le_refl _))⟩
      case measure => simp [intOf]; omega
    · obtain rfl : k = l.length := by omega
      have hi0 : decide ((l.length : Int) < (l.length : Int)) = false := by simp
      go_wp2_with fail
      go_ret
      have := HO.out
      rw [List.take_length] at this
      exact ⟨_, rfl, this, HB.out⟩
end Go.Proofs.YtjcdkbalhleeeaaGreatDoor

namespace Go.Proofs.YtjcdkbalhleeeaaGreatDoor
open Go.Proofs Go.RowKit
open Go.Lib (itoa join decDigits)

set_option maxRecDepth 100000 in
theorem text_put (bk o c : Nat) (xs : List (List UInt8)) (b : Nat) (lb : List UInt8) (w : World) (hr : Sd w (some ⟨bk, o, none⟩) c xs) (hn : xs ≠ []) (hB : Bld b lb w) (hlen : lb.length + ((join xs [32]).length + 1) ≤ 140737488355328) (hN : xs.length ≤ 1000) :
    Calls Tryz.prog 40 #[.slice (some ⟨bk, o, none⟩) xs.length c, .pointer (some ⟨b, 0, none⟩)] w fun e w' => e = .returned (.tuple #[]) ∧ Bld b (lb ++ (join xs [32] ++ [10])) w' ∧ Below b w w' := by
  have HJ := Lib.hid (strings_Join bk o c xs [32] w hr hn (by omega) (by omega))
  have HA := Lib.hid (fun W => run_add (join xs [32]) [10] (by simp; omega) W)
  have hb := hB.lt
  have HBW := Lib.hid (fun (W : World) (hW : Below w.heap.size w W) => builder_write b lb (join xs [32] ++ [10]) W (hB.below hW) (by simp; omega))
  have ha : ∀ W, (Op.stringOp .add (bs (join xs [32])) { data := #[10] }).run Tryz.prog W = .ok (.string (bs (join xs [32] ++ [10]))) W := HA.out
  generalize join xs [32] ++ [10] = J10 at *
  generalize join xs [32] = J at *
  go_enter Tryz.func40, Tryz.ntmps40
  go_wp2_with (first
    | (go_at_call 42; refine HJ.out.mono ?_; rintro e w1 ⟨rfl, hb1⟩)
    | (go_at_call 41; refine (HBW.out _ hb1).mono ?_; rintro e w2 ⟨rfl, hb2, hb3⟩))
  go_end0
  exact ⟨rfl, hb2, (hb1.mono (Nat.le_of_lt hb)).trans hb3⟩
end Go.Proofs.YtjcdkbalhleeeaaGreatDoor

namespace Go.Proofs.YtjcdkbalhleeeaaGreatDoor
open Go.Proofs Go.RowKit
open Go.Lib (itoa join)

theorem inf_intD : (Tryz.prog.info? 3).map (fun i => (i.zero, i.size, i.bytes)) = some (some (.int .i64 0), 1, 8) := by kernel_rfl
theorem und_intsD : Tryz.prog.underlying 51 = some (.slice 3) := by kernel_rfl
set_option maxRecDepth 100000 in
theorem drive_say (g : Nat) (wd : List UInt8) (n : Int) (w : World) (hc : w.cell? ⟨g, 0, none⟩ = some (.int .i64 n)) (h0 : -9223372036854775808 ≤ n) (h1 : n ≤ 9223372036854775807) (hw : wd.length ≤ 1000) (ht : Tab w) :
    Calls Tryz.prog 28 #[.string (bs wd), .slice (some ⟨g, 0, none⟩) 1 1] w fun e w' => e = .returned (.string (bs (sayW wd n))) ∧ Below w.heap.size w w' := by
  have hl := itoa_len h0 h1
  have HI := Lib.hid (itoa_call n h0 h1 w ht)
  have ha : ∀ W, (Op.stringOp .add { data := #[32] } (bs (itoa n))).run Tryz.prog W = .ok (.string (bs (32 :: itoa n))) W := fun W => run_add [32] (itoa n) (by simp; omega) W
  have hb : ∀ W, (Op.stringOp .add (bs wd) (bs (32 :: itoa n))).run Tryz.prog W = .ok (.string (bs (sayW wd n))) W := fun W => run_add wd (32 :: itoa n) (by simp; omega) W
  have hlt := World.block_lt_of_cell? _ _ hc
  generalize bs (32 :: itoa n) = t1 at *
  generalize bs (itoa n) = t2 at *
  generalize bs (sayW wd n) = t3 at *
  generalize bs wd = t4 at *
  clear hl hw
  go_enter Tryz.func28, Tryz.ntmps28
  go_wp2_with fail
  go_loopw [0, 9] (fun s0 s9 wx => (s9 = .int .i64 0 ∧ s0 = .string t4 ∧ wx = w) ∨ (s9 = .int .i64 1 ∧ s0 = .string t3 ∧ Below w.heap.size w wx)) (fun _ s9 _ => 1 - (intOf s9).toNat)
  case atStart => exact .inl ⟨rfl, rfl, rfl⟩
  case round =>
    rcases hrel with ⟨rfl, rfl, rfl⟩ | ⟨rfl, rfl, hb1⟩
    · go_wp2_with (go_at_call 67; refine HI.out.mono ?_; rintro e w1 ⟨rfl, hb1⟩)
      go_roundw
      case rel => exact .inr ⟨by go_num, rfl, hb1⟩
      case measure => simp [intOf]
    · go_wp2_with fail
      go_ret
      exact ⟨rfl, hb1⟩
set_option maxRecDepth 100000 in
theorem drive_fraction (n d : Int) (w : World) (hn : -9223372036854775807 ≤ n ∧ n ≤ 9223372036854775807) (hd : -9223372036854775807 ≤ d ∧ d ≤ 9223372036854775807) (ht : Tab w) :
    Calls Tryz.prog 109 #[.agg #[.int .i64 n, .int .i64 d]] w fun e w' => e = .returned (.string (bs (frcW n d))) ∧ Below w.heap.size w w' := by
  have HN := Lib.hid (fun (W : World) (hW : Below w.heap.size w W) => format_int n (by omega) hn.2 W (ht.below hW))
  have HD := Lib.hid (fun (W : World) (hW : Below w.heap.size w W) => format_int d (by omega) hd.2 W (ht.below hW))
  have hl := itoa_len (n := n) (by omega) hn.2
  have hl2 := itoa_len (n := d) (by omega) hd.2
  have ha : ∀ W, (Op.stringOp .add (bs (itoa n)) { data := #[47] }).run Tryz.prog W = .ok (.string (bs (itoa n ++ [47]))) W := fun W => run_add (itoa n) [47] (by simp; omega) W
  have hb : ∀ W, (Op.stringOp .add (bs (itoa n ++ [47])) (bs (itoa d))).run Tryz.prog W = .ok (.string (bs (frcW n d))) W := fun W => by
    rw [show frcW n d = (itoa n ++ [47]) ++ itoa d by simp [frcW]]
    exact run_add (itoa n ++ [47]) (itoa d) (by simp; omega) W
  generalize bs (itoa n ++ [47]) = t1 at *
  generalize bs (itoa n) = t2 at *
  generalize bs (itoa d) = t5 at *
  generalize bs (frcW n d) = t3 at *
  clear hl hl2 hn hd
  go_enter Tryz.func109, Tryz.ntmps109
  go_upto_region 1 with fail
  have HV := Lib.hid ((Below.refl w.heap.size w).alloc (Nat.le_refl _) (.cells #[.int .i64 n, .int .i64 d] 55))
  have BV := Lib.hid (Blk.mk' w 55 #[.int .i64 n, .int .i64 d])
  generalize (w.alloc (.cells #[.int .i64 n, .int .i64 d] 55)) = V at *
  have zV := HV.out.size
  have c0 : ∀ u : Wk V, u.1.cell? ⟨w.heap.size, 0, none⟩ = some (.int .i64 n) := fun u => (BV.out.next u.2).cell 0
  have c1 : ∀ u : Wk V, u.1.cell? ⟨w.heap.size, 1, none⟩ = some (.int .i64 d) := fun u => (BV.out.next u.2).cell 1
  have H1 := Lib.hid (fun u : Wk V => HN.out u.1 (HV.out.trans (u.2.mono zV)))
  have H2 := Lib.hid (fun u : Wk V => HD.out u.1 (HV.out.trans (u.2.mono zV)))
  refine wk_region (by kernel_rfl) (by kernel_rfl) ?_
  repeat (go_big_quiet_step (first | (go_at_call 44; with_reducible exact wk_call (H1.out _)) | (go_at_call 44; with_reducible exact wk_call (H2.out _))))
  refine wpQuiet_nil ?_
  rintro w7 ⟨u7, rfl⟩
  go_wp2_with fail
  go_ret
  exact ⟨rfl, HV.out.trans (u7.2.mono zV)⟩
/-- Columns: the numbers anew. -/
def RetCl (w : World) (l : List Int) (e : Ending) (w' : World) : Prop := ∃ A c, e = .returned (.slice A l.length c) ∧ Rd w' A c l ∧ Below w.heap.size w w'
set_option maxRecDepth 100000 in
theorem drive_columns (A : Option Addr) (c : Nat) (l : List Int) (w : World) (hr : Rd w A c l) :
    Calls Tryz.prog 110 #[.slice A l.length c] w (RetCl w l) := by
  have HR := Lib.hid hr
  obtain ⟨hl, hc, hs, _⟩ := hr
  go_enter Tryz.func110, Tryz.ntmps110
  go_wp2_with fail
  go_loopw [3, 8] (fun o i wx => ∃ k : Nat, k ≤ l.length ∧ i = .int .i64 k ∧ wx.ownsRow w.heap.size 3 1 o k ((l.take k).map (Value.int .i64)) ∧ Below w.heap.size w wx) (fun _ i _ => l.length - (intOf i).toNat)
  case atStart => exact ⟨0, by omega, rfl, World.ownsRow_nil _ _ _ _, Below.refl _ _⟩
  case round =>
    obtain ⟨k, hk, rfl, hown, hbel⟩ := hrel
    rename World => U
    have HB := Lib.hid hbel
    have HO := Lib.hid hown
    have zB := hbel.size
    clear hown hbel
    by_cases hlt : k < l.length
    · obtain ⟨ad, rfl, hcl⟩ := (HR.out.below HB.out).at_ hlt
      have hi0 : (k : Int) < (l.length : Int) := by omega
      have HTK := Lib.hid (show (l.take (k + 1)).map (Value.int .i64) = (l.take k).map (Value.int .i64) ++ [.int .i64 l[k]] by rw [List.take_succ_eq_append_getElem hlt, List.map_append]; rfl)
      generalize l[k] = n at *
      go_wp2_with (at_builtin; refine list_app1 rfl (.tmp 12) (.tmp 14) 51 3 (.int .i64 0) 8 und_intsD inf_intD rfl rfl w.heap.size _ k _ (.int .i64 n) rfl (own_below HO.out ((Below.refl _ _).alloc (Nat.le_refl _) _)) _ 1 rfl (cell_new1 _ _ _) rfl (by unfold maxLen; omega) (by omega) (by simp; omega) ?_; intro g cap w5 hown5 hg5 hat5 hlt5)
      go_roundw
      case rel => exact ⟨k + 1, by omega, by go_num, by rw [HTK.out]; exact hown5, (HB.out.alloc zB _).grown hg5 (by simp; omega) (own_ge HO.out (Nat.le_refl _))⟩
      case measure => simp [intOf]; omega
    · obtain rfl : k = l.length := by omega
      have hi0 : decide ((l.length : Int) < (l.length : Int)) = false := by simp
      rw [List.take_length] at HO
      obtain ⟨A5, c5, rfl, hrd, _⟩ := Rd.of_ownv HO.out rfl (by omega)
      go_wp2_with fail
      go_ret
      exact ⟨A5, c5, rfl, hrd, HB.out⟩
end Go.Proofs.YtjcdkbalhleeeaaGreatDoor

namespace Go.Proofs.YtjcdkbalhleeeaaGreatDoor
open Go.RowKit

/-- Whatever is cells, and whatever lies below B, lies as it lay. -/
structure KW (B : Nat) (W W' : World) : Prop where
  size : W.heap.size ≤ W'.heap.size
  same : ∀ (k : Nat) (o : Obj), W.heap[k]? = some o → (k < B ∨ o.isCells = true) → W'.heap[k]? = some o
theorem KW.refl (B : Nat) (W : World) : KW B W W := ⟨Nat.le_refl _, fun _ _ h _ => h⟩
theorem KW.trans {B : Nat} {X Y Z : World} (h : KW B X Y) (k : KW B Y Z) : KW B X Z := ⟨Nat.le_trans h.size k.size, fun i o hi ho => k.same i o (h.same i o hi ho) ho⟩
theorem KW.of_below {B : Nat} {W W' : World} (h : Below W.heap.size W W') : KW B W W' := ⟨h.size, fun k o hk _ => (h.block k (Array.getElem?_eq_some_iff.1 hk).1).trans hk⟩
theorem KW.putObj {B : Nat} {W : World} {l : Nat} {o : Obj} (o' : Obj) (hB : B ≤ l) (hl : W.heap[l]? = some o) (ho : o.isCells = false) : KW B W (W.putObj l o') :=
  ⟨by simp, fun k x hk hx => by
    by_cases e : k = l
    · subst e
      rw [hl] at hk; cases hk
      rcases hx with q | q
      · omega
      · rw [ho] at q; cases q
    · exact (World.putObj_heap_other e).trans hk⟩
theorem KW.cell {B : Nat} {W W' : World} (h : KW B W W') {p : Addr} {v : Value} (hc : W.cell? p = some v) : W'.cell? p = some v := by
  obtain ⟨b, off, sp⟩ := p
  cases hb : W.heap[b]? with
  | none => simp [World.cell?, hb] at hc
  | some o =>
    have : o.isCells = true := by cases o <;> first | rfl | (simp [World.cell?, hb] at hc)
    simp only [World.cell?, h.same b o hb (.inr this)]
    simpa only [World.cell?, hb] using hc
/-- The blocks of S lie as they lay. -/
structure KS (S : Nat → Prop) (W W' : World) : Prop where
  os : W'.os = W.os
  tape : W'.tape = W.tape
  output : W'.output = W.output
  size : W.heap.size ≤ W'.heap.size
  block : ∀ i, i < W.heap.size → S i → W'.heap[i]? = W.heap[i]?
section
variable {S : Nat → Prop} {W W' : World}
theorem KS.refl (S : Nat → Prop) (W : World) : KS S W W := ⟨rfl, rfl, rfl, Nat.le_refl _, fun _ _ _ => rfl⟩
theorem KS.trans {X Y Z : World} (h : KS S X Y) (k : KS S Y Z) : KS S X Z :=
  ⟨k.os.trans h.os, k.tape.trans h.tape, k.output.trans h.output, Nat.le_trans h.size k.size, fun i hi hs => (k.block i (Nat.lt_of_lt_of_le hi h.size) hs).trans (h.block i hi hs)⟩
theorem KS.of_below (h : Below W.heap.size W W') : KS S W W' := ⟨h.os, h.tape, h.output, h.size, fun i hi _ => h.block i hi⟩
theorem KS.of_grown {row : Option Nat} (h : W.grownBy W' row) (hr : ∀ j, row = some j → ¬ S j) : KS S W W' :=
  ⟨h.os, h.tape, h.output, h.size, fun i hi hs => h.block i hi fun e => hr i e.symm hs⟩
theorem KS.setCell (p : Addr) (v : Value) (h : KS S W W') (hp : ¬ S p.block) : KS S W (W'.setCell p v) :=
  h.trans ⟨rfl, rfl, rfl, by simp, fun i _ hs => Below.heap_setCell W' p v i fun e => hp (e ▸ hs)⟩
theorem KS.alloc (o : Obj) (h : KS S W W') : KS S W (W'.alloc o) := h.trans (.of_below ((Below.refl _ W').alloc (Nat.le_refl _) o))
theorem KS.next {W2 : World} (h : KS S W W') (k : Below W'.heap.size W' W2) : KS S W W2 := h.trans (.of_below k)
theorem KS.putObj {l : Nat} (o' : Obj) (h : KS S W W') (hl : ¬ S l) : KS S W (W'.putObj l o') :=
  h.trans (.of_grown (grownBy_putObj' W' l o') fun j e => by cases e; exact hl)
theorem KS.below {n : Nat} (h : KS S W W') (hS : ∀ i, i < n → S i) (hn : n ≤ W.heap.size) : Below n W W' :=
  ⟨h.os, h.tape, h.output, h.size, fun i hi => h.block i (by omega) (hS i hi)⟩
theorem KS.cell (h : KS S W W') {b off : Nat} {v : Value} (hs : S b) (hc : W.cell? ⟨b, off, none⟩ = some v) : W'.cell? ⟨b, off, none⟩ = some v := by
  have hlt := World.block_lt_of_cell? _ _ hc
  have := h.block b hlt hs
  simp only [World.cell?, this]
  simpa only [World.cell?] using hc
end

/-- The contract of an iterator's value: N rounds; the k-th is handed what En k says, in the world where it begins. -/
def IterC (P : Program) (gf : Nat) (lb : Array Value) (S : Nat → Prop) (N : Nat) (En : Nat → Array Value → World → Prop) (w0 : World) : Prop :=
  ∀ (l : Nat) (J Jx : Nat → World → Prop) (W : World), KS S w0 W →
    (∀ k A B, J k A → Below A.heap.size A B → J k B) → (∀ k A B, Jx k A → Below A.heap.size A B → Jx k B) →
    (∀ k args W1, k < N → J k W1 → KS S w0 W1 → En k args W1 → YieldAt Fence.wide 0 P l args W1 fun e W' => (e = .returned (.bool true) ∧ J (k + 1) W' ∧ KS S W1 W') ∨ (e = .returned (.bool false) ∧ Jx k W')) →
    J 0 W →
    Calls P gf (#[.func (.yield l) #[] #[]] ++ lb) W fun e W' => (∃ v, e = .returned v) ∧ (J N W' ∨ ∃ k, k < N ∧ Jx k W')

theorem _root_.Go.KeepsFrom.of_below {W W' : World} (h : Below W.heap.size W W') (B : Nat) : KeepsFrom B W W' := ⟨h.size, fun k o _ hk _ => (h.block k (Array.getElem?_eq_some_iff.1 hk).1).trans hk⟩
/-- How the body of a round may be left. -/
def rndPost (B : Nat) (S : Nat → Prop) (I : Nat → World → Prop) (Ix : Code → Nat → World → Prop) (k : Nat) (W : World) : Exit → Act → World → Prop
  | .normal, _, W' => KeepsFrom B W W' ∧ KS S W W' ∧ I (k + 1) W'
  | .ret, _, W' => KeepsFrom B W W' ∧ KS S W W' ∧ Ix .ret k W'
  | .exit id, _, W' => KeepsFrom B W W' ∧ KS S W W' ∧ Ix (.exit id) k W'
  | .goto t, _, W' => KeepsFrom B W W' ∧ KS S W W' ∧ Ix (.goto t) k W'
  | .panic _, _, _ => False
  | .outgrown, _, _ => False
abbrev markD (D : Nat) : Deferred := { target := .collected D, args := #[] }

/-- The law. -/
theorem wp_iter {P : Program} {g : Operand} {ps : Array Tmp} {assign body : Code} {Q : Exit → Act → World → Prop} {a : Act} {w : World} {gf : Nat} {lb : Array Value}
    (hg : a.eval g = .func (.func gf) #[] lb) (eg : ∀ args w, (callFunc gf args).run P w = .ok (.enter gf args) w)
    {S : Nat → Prop} {N : Nat} {En : Nat → Array Value → World → Prop} {w0 : World} (hseq : IterC P gf lb S N En w0) (hb0 : KS S w0 w) (hS : ∀ i, S i → i < w.heap.size) (hps : ∀ k args W, En k args W → args.size = ps.size)
    (I : Nat → World → Prop) (Ix : Code → Nat → World → Prop) (hI : ∀ k A B, I k A → KW w.heap.size A B → I k B) (hIx : ∀ c k A B, Ix c k A → KW w.heap.size A B → Ix c k B) (h0 : I 0 w)
    (hround : ∀ l k args W, w.heap.size ≤ l → k < N → I k W → KS S w W → En k args W → W.heap.size > l →
      assign.wpIn (Fence.wide.inRound l) 0 P (Exit.then (fun a' Wa => KeepsFrom w.heap.size W Wa ∧ KS S W Wa ∧ ∀ Wb, KW w.heap.size Wa Wb → KS S Wa Wb → body.wpIn (Fence.wide.inRound l) 0 P (rndPost w.heap.size S I Ix k Wb) a' Wb) (fun _ _ _ => False))
        { tmps := (ps.zip args).foldl (fun t (p, v) => t.setIfInBounds p v) a.tmps, defers := [] } W)
    (hdone : ∀ D W, w.heap.size ≤ D → I N W → KS S w W → W.heap[D]? = some (.deferred (some [])) → Q .normal { a with defers := markD D :: a.defers } W)
    (hstop : ∀ D c k W, w.heap.size ≤ D → k < N → Ix c k W → KS S w W → W.heap[D]? = some (.deferred (some [])) → c.wp P Q { a with defers := markD D :: a.defers } W) :
    (Code.rangeFunc g ps assign body).wp P Q a w := by
  refine (wpIn_wide (n := 0)).1 (wpIn_rangeFunc ?_)
  intro fn hfn
  rw [show Fence.wide.round = none from rfl]
  obtain ⟨rec, hrec⟩ : ∃ rec : LoopState → Option Code → Loop, rec = fun st pe => { state := st, pending := pe, fn, tmps := a.tmps, params := ps, assign, body, defers := w.heap.size } := ⟨_, rfl⟩
  obtain ⟨W1, hW1⟩ : ∃ W1, (w.alloc (.deferred (some []))).alloc (.loop (rec .ready none)) = W1 := ⟨_, rfl⟩
  have hL1 : W1.heap[w.heap.size + 1]? = some (.loop (rec .ready none)) := by
    rw [← hW1]; have := World.alloc_heap_new (w.alloc (.deferred (some []))) (.loop (rec .ready none)); rwa [World.size_alloc] at this
  have hK1 : W1.heap[w.heap.size]? = some (.deferred (some [])) := by
    rw [← hW1]; exact (Below.heap_alloc _ _ _ (by simp)).trans (World.alloc_heap_new w _)
  have hbW : Below w.heap.size w W1 := by rw [← hW1]; exact ((Below.refl _ w).alloc (Nat.le_refl _) _).alloc (by simp) _
  have hI1 : I 0 W1 := hI 0 w W1 h0 (.of_below hbW)
  have hb1 : KS S w W1 := .of_below hbW
  have hl0 : ¬ S (w.heap.size + 1) := fun q => by have := hS _ q; omega
  refine ⟨w.heap.size + 1, [markD w.heap.size], W1, { target := .fn (.func gf) lb, args := #[.func (.yield (w.heap.size + 1)) #[] #[]] }, W1, gf,
    #[.func (.yield (w.heap.size + 1)) #[] #[]] ++ lb, W1, ?_, ?_, fun _ _ => trivial, ?_, fun h => by simp [Fence.wide] at h, ?_⟩
  · rw [← hW1, hrec]; exact run_enterLoop_outer _ _ _ _ _
  · simp only [resolve, hg]
    simp [go_sem]
  · simp [invoke, go_sem, eg]
  · refine callsIn_wide.2 ((hseq (w.heap.size + 1)
      (fun k W => I k W ∧ W.heap[w.heap.size + 1]? = some (.loop (rec .ready none)) ∧ W.heap[w.heap.size]? = some (.deferred (some [])) ∧ KS S w W)
      (fun k W => ∃ c, Ix c k W ∧ W.heap[w.heap.size + 1]? = some (.loop (rec .done (some c))) ∧ W.heap[w.heap.size]? = some (.deferred (some [])) ∧ KS S w W)
      W1 (hb0.trans hb1) ?_ ?_ ?_ ⟨hI1, hL1, hK1, hb1⟩).mono ?_)
    · rintro k A B ⟨hi, hl, hk, hb⟩ hAB
      exact ⟨hI k A B hi (.of_below hAB), (hAB.block _ (Array.getElem?_eq_some_iff.1 hl).1).trans hl, (hAB.block _ (Array.getElem?_eq_some_iff.1 hk).1).trans hk, hb.next hAB⟩
    · rintro k A B ⟨c, hi, hl, hk, hb⟩ hAB
      exact ⟨c, hIx c k A B hi (.of_below hAB), (hAB.block _ (Array.getElem?_eq_some_iff.1 hl).1).trans hl, (hAB.block _ (Array.getElem?_eq_some_iff.1 hk).1).trans hk, hb.next hAB⟩
    · rintro k args W hkN ⟨hi, hl, hk, hb⟩ _ hen
      have hlt : w.heap.size + 1 < W.heap.size := (Array.getElem?_eq_some_iff.1 hl).1
      have hy := run_yield (P := P) (args := args) hl (by rw [hrec]; exact hps k args W hen)
      rw [hrec] at hy
      refine ⟨fn, _, assign, body, hy, roundIn_of_wpIn trivial ?_⟩
      refine Go.wpIn_mono (hround (w.heap.size + 1) k args W (by omega) hkN hi hb hen hlt) ?_
      rintro e a' Wa hq
      cases e with
      | normal =>
        obtain ⟨hkf, hba, hbody⟩ := hq
        have hla := hkf.same _ _ (by omega) hl rfl
        have hka := hkf.same _ _ (Nat.le_refl _) hk rfl
        refine ⟨_, run_beginRound hla (by rw [hrec]), ?_⟩
        have hlta : w.heap.size + 1 < Wa.heap.size := (Array.getElem?_eq_some_iff.1 hla).1
        have hl2 : (Wa.putObj (w.heap.size + 1) (.loop { rec .ready none with state := .busy })).heap[w.heap.size + 1]? = some (.loop { rec .ready none with state := .busy }) := World.putObj_heap_same hlta
        have hk2 : (Wa.putObj (w.heap.size + 1) (.loop { rec .ready none with state := .busy })).heap[w.heap.size]? = some (.deferred (some [])) := (World.putObj_heap_other (by omega)).trans hka
        refine Go.wpIn_mono (hbody _ (KW.putObj _ (by omega) hla rfl) ((KS.refl _ _).putObj _ hl0)) ?_
        have hbP : KS S W (Wa.putObj (w.heap.size + 1) (.loop { rec .ready none with state := .busy })) := hba.putObj _ hl0
        have fin : ∀ (jump : Option Code) (W3 : World), KeepsFrom w.heap.size (Wa.putObj (w.heap.size + 1) (.loop { rec .ready none with state := .busy })) W3 → KS S (Wa.putObj (w.heap.size + 1) (.loop { rec .ready none with state := .busy })) W3 →
            (Instr.endRound (w.heap.size + 1) jump).run P W3 = .ok (.bool jump.isNone) (W3.putObj (w.heap.size + 1) (.loop (rec (if jump.isNone then .ready else .done) jump))) ∧
            W3.heap[w.heap.size + 1]? = some (.loop { rec .ready none with state := .busy }) ∧
            (W3.putObj (w.heap.size + 1) (.loop (rec (if jump.isNone then .ready else .done) jump))).heap[w.heap.size + 1]? = some (.loop (rec (if jump.isNone then .ready else .done) jump)) ∧
            (W3.putObj (w.heap.size + 1) (.loop (rec (if jump.isNone then .ready else .done) jump))).heap[w.heap.size]? = some (.deferred (some [])) ∧
            KS S W (W3.putObj (w.heap.size + 1) (.loop (rec (if jump.isNone then .ready else .done) jump))) := fun jump W3 hk3 hb3 => by
          have hl3 := hk3.same _ _ (by omega) hl2 rfl
          have := run_endRound (P := P) jump hl3
          rw [hrec] at this ⊢
          exact ⟨this, by rw [hrec] at hl3; exact hl3, World.putObj_heap_same (Array.getElem?_eq_some_iff.1 hl3).1, (World.putObj_heap_other (by omega)).trans (hk3.same _ _ (Nat.le_refl _) hk2 rfl), (hbP.trans hb3).putObj _ hl0⟩
        rintro e a3 W3 hp
        cases e with
        | normal =>
          obtain ⟨hk3, hb3, hi3⟩ := hp
          obtain ⟨hr, hl3, hl4, hk4, hb4⟩ := fin none W3 hk3 hb3
          exact ⟨_, _, hr, .inl ⟨rfl, ⟨hI _ _ _ hi3 (KW.putObj _ (by omega) hl3 rfl), hl4, hk4, hb.trans hb4⟩, hb4⟩⟩
        | ret =>
          obtain ⟨hk3, hb3, hi3⟩ := hp
          obtain ⟨hr, hl3, hl4, hk4, hb4⟩ := fin (some .ret) W3 hk3 hb3
          exact ⟨_, _, hr, .inr ⟨rfl, .ret, hIx _ _ _ _ hi3 (KW.putObj _ (by omega) hl3 rfl), hl4, hk4, hb.trans hb4⟩⟩
        | exit id =>
          obtain ⟨hk3, hb3, hi3⟩ := hp
          obtain ⟨hr, hl3, hl4, hk4, hb4⟩ := fin (some (.exit id)) W3 hk3 hb3
          exact ⟨_, _, hr, .inr ⟨rfl, .exit id, hIx _ _ _ _ hi3 (KW.putObj _ (by omega) hl3 rfl), hl4, hk4, hb.trans hb4⟩⟩
        | goto t =>
          obtain ⟨hk3, hb3, hi3⟩ := hp
          obtain ⟨hr, hl3, hl4, hk4, hb4⟩ := fin (some (.goto t)) W3 hk3 hb3
          exact ⟨_, _, hr, .inr ⟨rfl, .goto t, hIx _ _ _ _ hi3 (KW.putObj _ (by omega) hl3 rfl), hl4, hk4, hb.trans hb4⟩⟩
        | panic ch => exact hp.elim
        | outgrown => exact hp.elim
      | exit id => exact hq.elim
      | goto t => exact hq.elim
      | ret => exact hq.elim
      | panic chain => exact hq.elim
      | outgrown => exact hq.elim
    · rintro e W2 ⟨⟨v, rfl⟩, (⟨hi, hl, hk, hb⟩ | ⟨k, hkN, c, hi, hl, hk, hb⟩)⟩
      · refine ⟨none, _, by have := run_endLoop (P := P) hl (by rw [hrec]; simp); rw [hrec] at this; exact this, ?_⟩
        exact hdone _ _ (Nat.le_refl _) (hI _ _ _ hi (KW.putObj _ (by omega) hl rfl)) (hb.putObj _ hl0) ((World.putObj_heap_other (by omega)).trans hk)
      · refine ⟨some c, _, by have := run_endLoop (P := P) hl (by rw [hrec]; simp); rw [hrec] at this; exact this, ?_⟩
        exact wpIn_wide.2 (hstop _ c k _ (Nat.le_refl _) hkN (hIx _ _ _ _ hi (KW.putObj _ (by omega) hl rfl)) (hb.putObj _ hl0) ((World.putObj_heap_other (by omega)).trans hk))

/-- A function that holds such a loop, from its body. -/
theorem calls_of_marks {P : Program} {f : FuncId} {fn : Func} {c : Code} {args : Array Value} {w : World} {R : Ending → World → Prop} (hf : P.funcs[f]? = some fn) (hb : fn.body = some c)
    (h : c.wp P (bodyPostM Fence.wide 0 P fn R) { tmps := args ++ Array.replicate (fn.ntmps - args.size) undef, defers := [] } w) : Calls P f args w R :=
  callsIn_wide.1 (callsIn_of_wp_marks hf hb trivial (wpIn_wide.2 h) rfl)
end Go.Proofs.YtjcdkbalhleeeaaGreatDoor

namespace Go.Proofs.YtjcdkbalhleeeaaGreatDoor
open Go.RowKit

/-- The rows' slice reads as these rows. -/
structure Rw (w : World) (A : Option Addr) (c : Nat) (rs : List (List Int × Int)) : Prop where
  le : rs.length ≤ c
  cap : c ≤ 9223372036854775807
  small : rs.length ≤ 17592186044416
  cells : 0 < rs.length → ∃ ad, A = some ad ∧ ∀ (j : Nat) (hj : j < rs.length), ∃ A' c', w.cell? (ad.add (j * 2)) = some (.slice A' rs[j].1.length c') ∧ w.cell? ⟨(ad.add (j * 2)).block, (ad.add (j * 2)).off + 1, none⟩ = some (.int .i64 rs[j].2) ∧ Rd w A' c' rs[j].1
section
variable {w w' : World} {A : Option Addr} {c : Nat} {rs : List (List Int × Int)}
theorem Rw.keep (h : Rw w A c rs) (hk : ∀ p : Addr, p.block < w.heap.size → w'.cell? p = w.cell? p) : Rw w' A c rs :=
  ⟨h.le, h.cap, h.small, fun hl => by
    obtain ⟨ad, e, hc⟩ := h.cells hl
    refine ⟨ad, e, fun j hj => ?_⟩
    obtain ⟨A', c', h1, h2, h3⟩ := hc j hj
    exact ⟨A', c', (hk _ (World.block_lt_of_cell? _ _ h1)).trans h1, (hk _ (World.block_lt_of_cell? _ _ h2)).trans h2, h3.keep hk⟩⟩
theorem Rw.below (h : Rw w A c rs) (hb : Below w.heap.size w w') : Rw w' A c rs := h.keep fun _ hp => hb.cell hp
theorem Rw.hop {w1 : World} (h : Rw w A c rs) (hl : Below w.heap.size w w1) (hb : Below w1.heap.size w1 w') : Rw w' A c rs := (h.below hl).below hb
theorem Rw.at_ (h : Rw w A c rs) {k : Nat} (hk : k < rs.length) : ∃ ad A' c', A = some ad ∧ w.cell? (ad.add (k * 2)) = some (.slice A' rs[k].1.length c') ∧ w.cell? ⟨(ad.add (k * 2)).block, (ad.add (k * 2)).off + 1, none⟩ = some (.int .i64 rs[k].2) ∧ Rd w A' c' rs[k].1 := by
  obtain ⟨ad, e, hc⟩ := h.cells (by omega)
  obtain ⟨A', c', h1, h2, h3⟩ := hc k hk
  exact ⟨ad, A', c', e, h1, h2, h3⟩
end
/-- A program's two slices read as it. -/
structure Pg (w : World) (A : Option Addr) (c : Nat) (A2 : Option Addr) (c2 : Nat) (p : PG) : Prop where
  costs : Rd w A c p.costs
  rows : Rw w A2 c2 p.rows
section
variable {w w' : World} {A A2 : Option Addr} {c c2 : Nat} {p : PG}
theorem Pg.below (h : Pg w A c A2 c2 p) (hb : Below w.heap.size w w') : Pg w' A c A2 c2 p := ⟨h.costs.below hb, h.rows.below hb⟩
theorem Pg.hop {w1 : World} (h : Pg w A c A2 c2 p) (hl : Below w.heap.size w w1) (hb : Below w1.heap.size w1 w') : Pg w' A c A2 c2 p := (h.below hl).below hb
end
end Go.Proofs.YtjcdkbalhleeeaaGreatDoor
