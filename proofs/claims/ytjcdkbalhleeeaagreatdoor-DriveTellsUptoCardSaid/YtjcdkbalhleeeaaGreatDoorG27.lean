/-
  Contracts of functions and plain laws that later parts of the proof use. The conditions stand in each theorem.
-/
import Derived.Test.YtjcdkbalhleeeaaGreatDoorG06
import Derived.Test.YtjcdkbalhleeeaaGreatDoorG11
import Derived.Test.YtjcdkbalhleeeaaGreatDoorG07
import Derived.Ground.NamesProg
import Derived.Shelf.Strconv.Itoa4
import Derived.Shelf.Strings.OnBuilder
import Derived.Shelf.Strings.Builder1
import Derived.WalkSmall
import Derived.Lib.AppendIntMem
import Derived.Lib.Hide
import Derived.Test.YtjcdkbalhleeeaaGreatDoorG12
namespace Go.Proofs
open Go.Shelf
def Tryz.lays173_ren : Go.Shelf.Ren := ⟨fun | 173 => 44 | 246 => 90 | 283 => 117 | 284 => 118 | 285 => 119 | 286 => 120 | 129 => 137 | 317 => 149 | 318 => 150 | 319 => 151 | 320 => 152 | 337 => 176 | 338 => 177 | n => n, fun | 2 => 2 | 3 => 3 | 9 => 9 | 4 => 4 | 171 => 177 | 0 => 0 | 53 => 178 | 37 => 87 | 5 => 5 | 173 => 181 | 212 => 207 | 51 => 197 | 20 => 20 | 213 => 208 | 46 => 166 | 232 => 245 | 233 => 246 | n => n, fun | 17 => 1 | 18 => 6 | 19 => 7 | n => n⟩
theorem Tryz.lays173 : LaysM.n173 Tryz.prog Tryz.lays173_ren := {
 mixed := by kernel_rfl
 f129 := Tryz.func137.trans (congrArg some (by kernel_rfl))
 f173 := Tryz.func44.trans (congrArg some (by kernel_rfl))
 f246 := Tryz.func90.trans (congrArg some (by kernel_rfl))
 f283 := Tryz.func117.trans (congrArg some (by kernel_rfl))
 f284 := Tryz.func118.trans (congrArg some (by kernel_rfl))
 f285 := Tryz.func119.trans (congrArg some (by kernel_rfl))
 f286 := Tryz.func120.trans (congrArg some (by kernel_rfl))
 f317 := Tryz.func149.trans (congrArg some (by kernel_rfl))
 f318 := Tryz.func150.trans (congrArg some (by kernel_rfl))
 f319 := Tryz.func151.trans (congrArg some (by kernel_rfl))
 f320 := Tryz.func152.trans (congrArg some (by kernel_rfl))
 f337 := Tryz.func176.trans (congrArg some (by kernel_rfl))
 f338 := Tryz.func177.trans (congrArg some (by kernel_rfl))
 t0 := Tryz.underlying0
 a0 := Tryz.isAgg0
 z0 := Tryz.sizeOf0
 v0 := Tryz.zeroValue0
 t2 := Tryz.underlying2
 a2 := Tryz.isAgg2
 z2 := Tryz.sizeOf2
 v2 := Tryz.zeroValue2
 t3 := Tryz.underlying3
 a3 := Tryz.isAgg3
 z3 := Tryz.sizeOf3
 v3 := Tryz.zeroValue3
 t4 := Tryz.underlying4
 a4 := Tryz.isAgg4
 z4 := Tryz.sizeOf4
 v4 := Tryz.zeroValue4
 t5 := Tryz.underlying5
 a5 := Tryz.isAgg5
 z5 := Tryz.sizeOf5
 v5 := Tryz.zeroValue5
 t9 := Tryz.underlying9
 a9 := Tryz.isAgg9
 z9 := Tryz.sizeOf9
 v9 := Tryz.zeroValue9
 t20 := Tryz.underlying20
 a20 := Tryz.isAgg20
 z20 := Tryz.sizeOf20
 v20 := Tryz.zeroValue20
 t37 := Tryz.underlying87
 a37 := Tryz.isAgg87
 z37 := Tryz.sizeOf87
 v37 := Tryz.zeroValue87
 t46 := Tryz.underlying166
 a46 := Tryz.isAgg166
 z46 := Tryz.sizeOf166
 v46 := Tryz.zeroValue166
 t51 := Tryz.underlying197
 a51 := Tryz.isAgg197
 z51 := Tryz.sizeOf197
 v51 := Tryz.zeroValue197
 t53 := Tryz.underlying178
 a53 := Tryz.isAgg178
 z53 := Tryz.sizeOf178
 v53 := Tryz.zeroValue178
 t171 := Tryz.underlying177
 a171 := Tryz.isAgg177
 z171 := Tryz.sizeOf177
 v171 := Tryz.zeroValue177
 t173 := Tryz.underlying181
 a173 := Tryz.isAgg181
 z173 := Tryz.sizeOf181
 v173 := Tryz.zeroValue181
 t212 := Tryz.underlying207
 a212 := Tryz.isAgg207
 z212 := Tryz.sizeOf207
 v212 := Tryz.zeroValue207
 t213 := Tryz.underlying208
 a213 := Tryz.isAgg208
 z213 := Tryz.sizeOf208
 t232 := Tryz.underlying245
 a232 := Tryz.isAgg245
 z232 := Tryz.sizeOf245
 v232 := Tryz.zeroValue245
 t233 := Tryz.underlying246
 a233 := Tryz.isAgg246
 z233 := Tryz.sizeOf246
 v233 := Tryz.zeroValue246
 g17 := by kernel_rfl
 g18 := by kernel_rfl
 g19 := by kernel_rfl
 i0 := by kernel_rfl
 i2 := by kernel_rfl
 i3 := by kernel_rfl
 i4 := by kernel_rfl
 i5 := by kernel_rfl
 i9 := by kernel_rfl
 i20 := by kernel_rfl
 i37 := by kernel_rfl
 i46 := by kernel_rfl
 i51 := by kernel_rfl
 i53 := by kernel_rfl
 i171 := by kernel_rfl
 i173 := by kernel_rfl
 i212 := by kernel_rfl
 i232 := by kernel_rfl
 i233 := by kernel_rfl
 m17 := by kernel_rfl
 m18 := by kernel_rfl
 m19 := by kernel_rfl
 }
def Tryz.lays156_ren : Go.Shelf.Ren := ⟨fun | 156 => 42 | 165 => 89 | 166 => 41 | 169 => 45 | 240 => 88 | 241 => 116 | 276 => 115 | 277 => 148 | n => n, fun | 31 => 22 | 9 => 9 | 3 => 3 | 4 => 4 | 0 => 0 | 20 => 20 | 72 => 105 | 76 => 108 | 70 => 103 | 37 => 87 | 75 => 107 | 127 => 154 | 164 => 175 | 5 => 5 | 80 => 84 | n => n, fun | n => n⟩
theorem Tryz.lays156 : Lays.n156 Tryz.prog Tryz.lays156_ren := {
 mixed := by kernel_rfl
 f156 := Tryz.func42.trans (congrArg some (by kernel_rfl))
 f165 := Tryz.func89.trans (congrArg some (by kernel_rfl))
 f166 := Tryz.func41.trans (congrArg some (by kernel_rfl))
 f169 := Tryz.func45.trans (congrArg some (by kernel_rfl))
 f240 := Tryz.func88.trans (congrArg some (by kernel_rfl))
 f241 := Tryz.func116.trans (congrArg some (by kernel_rfl))
 f276 := Tryz.func115.trans (congrArg some (by kernel_rfl))
 f277 := Tryz.func148.trans (congrArg some (by kernel_rfl))
 t0 := Tryz.underlying0
 a0 := Tryz.isAgg0
 z0 := Tryz.sizeOf0
 v0 := Tryz.zeroValue0
 t3 := Tryz.underlying3
 a3 := Tryz.isAgg3
 z3 := Tryz.sizeOf3
 v3 := Tryz.zeroValue3
 t4 := Tryz.underlying4
 a4 := Tryz.isAgg4
 z4 := Tryz.sizeOf4
 v4 := Tryz.zeroValue4
 t9 := Tryz.underlying9
 a9 := Tryz.isAgg9
 z9 := Tryz.sizeOf9
 v9 := Tryz.zeroValue9
 t20 := Tryz.underlying20
 a20 := Tryz.isAgg20
 z20 := Tryz.sizeOf20
 v20 := Tryz.zeroValue20
 t31 := Tryz.underlying22
 a31 := Tryz.isAgg22
 z31 := Tryz.sizeOf22
 v31 := Tryz.zeroValue22
 t37 := Tryz.underlying87
 a37 := Tryz.isAgg87
 z37 := Tryz.sizeOf87
 v37 := Tryz.zeroValue87
 t70 := Tryz.underlying103
 a70 := Tryz.isAgg103
 z70 := Tryz.sizeOf103
 v70 := Tryz.zeroValue103
 t72 := Tryz.underlying105
 a72 := Tryz.isAgg105
 z72 := Tryz.sizeOf105
 v72 := Tryz.zeroValue105
 t75 := Tryz.underlying107
 a75 := Tryz.isAgg107
 z75 := Tryz.sizeOf107
 v75 := Tryz.zeroValue107
 t76 := Tryz.underlying108
 a76 := Tryz.isAgg108
 z76 := Tryz.sizeOf108
 v76 := Tryz.zeroValue108
 t127 := Tryz.underlying154
 a127 := Tryz.isAgg154
 z127 := Tryz.sizeOf154
 v127 := Tryz.zeroValue154
 t164 := Tryz.underlying175
 a164 := Tryz.isAgg175
 z164 := Tryz.sizeOf175
 v164 := Tryz.zeroValue175
 }
def Tryz.lays166_ren : Go.Shelf.Ren := ⟨fun | 166 => 41 | 240 => 88 | 276 => 115 | n => n, fun | 70 => 103 | 9 => 9 | 3 => 3 | 75 => 107 | 0 => 0 | 72 => 105 | 37 => 87 | 4 => 4 | 164 => 175 | 80 => 84 | 5 => 5 | 20 => 20 | n => n, fun | n => n⟩
theorem Tryz.lays166 : Lays.n166 Tryz.prog Tryz.lays166_ren := {
 mixed := by kernel_rfl
 f166 := Tryz.func41.trans (congrArg some (by kernel_rfl))
 f240 := Tryz.func88.trans (congrArg some (by kernel_rfl))
 f276 := Tryz.func115.trans (congrArg some (by kernel_rfl))
 t0 := Tryz.underlying0
 a0 := Tryz.isAgg0
 z0 := Tryz.sizeOf0
 v0 := Tryz.zeroValue0
 t3 := Tryz.underlying3
 a3 := Tryz.isAgg3
 z3 := Tryz.sizeOf3
 v3 := Tryz.zeroValue3
 t4 := Tryz.underlying4
 a4 := Tryz.isAgg4
 z4 := Tryz.sizeOf4
 v4 := Tryz.zeroValue4
 t9 := Tryz.underlying9
 a9 := Tryz.isAgg9
 z9 := Tryz.sizeOf9
 v9 := Tryz.zeroValue9
 t20 := Tryz.underlying20
 a20 := Tryz.isAgg20
 z20 := Tryz.sizeOf20
 v20 := Tryz.zeroValue20
 t37 := Tryz.underlying87
 a37 := Tryz.isAgg87
 z37 := Tryz.sizeOf87
 v37 := Tryz.zeroValue87
 t70 := Tryz.underlying103
 a70 := Tryz.isAgg103
 z70 := Tryz.sizeOf103
 v70 := Tryz.zeroValue103
 t72 := Tryz.underlying105
 a72 := Tryz.isAgg105
 z72 := Tryz.sizeOf105
 v72 := Tryz.zeroValue105
 t75 := Tryz.underlying107
 a75 := Tryz.isAgg107
 z75 := Tryz.sizeOf107
 v75 := Tryz.zeroValue107
 t164 := Tryz.underlying175
 a164 := Tryz.isAgg175
 z164 := Tryz.sizeOf175
 v164 := Tryz.zeroValue175
 }
def Tryz.lays169_ren : Go.Shelf.Ren := ⟨fun | 169 => 45 | n => n, fun | 70 => 103 | 9 => 9 | 0 => 0 | 72 => 105 | 37 => 87 | 127 => 154 | 3 => 3 | 5 => 5 | n => n, fun | n => n⟩
theorem Tryz.lays169 : Lays.n169 Tryz.prog Tryz.lays169_ren := {
 mixed := by kernel_rfl
 f169 := Tryz.func45.trans (congrArg some (by kernel_rfl))
 t0 := Tryz.underlying0
 a0 := Tryz.isAgg0
 z0 := Tryz.sizeOf0
 v0 := Tryz.zeroValue0
 t3 := Tryz.underlying3
 a3 := Tryz.isAgg3
 z3 := Tryz.sizeOf3
 v3 := Tryz.zeroValue3
 t9 := Tryz.underlying9
 a9 := Tryz.isAgg9
 z9 := Tryz.sizeOf9
 v9 := Tryz.zeroValue9
 t37 := Tryz.underlying87
 a37 := Tryz.isAgg87
 z37 := Tryz.sizeOf87
 v37 := Tryz.zeroValue87
 t70 := Tryz.underlying103
 a70 := Tryz.isAgg103
 z70 := Tryz.sizeOf103
 v70 := Tryz.zeroValue103
 t72 := Tryz.underlying105
 a72 := Tryz.isAgg105
 z72 := Tryz.sizeOf105
 v72 := Tryz.zeroValue105
 t127 := Tryz.underlying154
 a127 := Tryz.isAgg154
 z127 := Tryz.sizeOf154
 v127 := Tryz.zeroValue154
 }
theorem Tryz.builder_extra156 : Builder.Extra Tryz.prog Tryz.lays156_ren := {
 sizeBuilder := by kernel_rfl
 liesBuilder := by kernel_rfl
 t5 := Tryz.underlying5
 a5 := Tryz.isAgg5
 z5 := Tryz.sizeOf5
 v5 := Tryz.zeroValue5
 infoByte := by kernel_rfl
 cellsByte := by kernel_rfl
 sizeByte := by kernel_rfl
 neB5 := by decide
 }
theorem Tryz.builder_extra166 : Builder.Extra Tryz.prog Tryz.lays166_ren := {
 sizeBuilder := by kernel_rfl
 liesBuilder := by kernel_rfl
 t5 := Tryz.underlying5
 a5 := Tryz.isAgg5
 z5 := Tryz.sizeOf5
 v5 := Tryz.zeroValue5
 infoByte := by kernel_rfl
 cellsByte := by kernel_rfl
 sizeByte := by kernel_rfl
 neB5 := by decide
 }
theorem Tryz.builder_extra169 : Builder.Extra Tryz.prog Tryz.lays169_ren := {
 sizeBuilder := by kernel_rfl
 liesBuilder := by kernel_rfl
 t5 := Tryz.underlying5
 a5 := Tryz.isAgg5
 z5 := Tryz.sizeOf5
 v5 := Tryz.zeroValue5
 infoByte := by kernel_rfl
 cellsByte := by kernel_rfl
 sizeByte := by kernel_rfl
 neB5 := by decide
 }
end Go.Proofs
namespace Go.Proofs.YtjcdkbalhleeeaaGreatDoor
open Go.Proofs Go.RowKit Go.Shelf Go.Sort Go.Lib
def bs (l : List UInt8) : ByteArray := ⟨l.toArray⟩
abbrev strV (l : List UInt8) : Value := .string (bs l)
theorem bs_data (l : List UInt8) : (bs l).data.toList = l := by simp [bs]
theorem bs_list (l : List UInt8) : (bs l).toList = l := by rw [ByteArray.toList_eq, bs_data]
theorem bs_size (l : List UInt8) : (bs l).size = l.length := by simp [bs, ByteArray.size]
theorem bs_of (s : ByteArray) : bs s.data.toList = s := by simp [bs]
theorem bs_app (a b : List UInt8) : bs a ++ bs b = bs (a ++ b) := by unfold bs; rw [ByteArray.mk_append_mk]
theorem run_add (a b : List UInt8) (h : a.length + b.length ≤ 9223372036854775807) (w : World) : (Op.stringOp .add (bs a) (bs b)).run Tryz.prog w = .ok (.string (bs (a ++ b))) w := by
 rw [run_string_add_sum w _ _ (by rw [bs_size, bs_size]; exact h), bs_app]
structure Sd (w : World) (A : Option Addr) (c : Nat) (l : List (List UInt8)) : Prop where
 le : l.length ≤ c
 cap : c ≤ 9223372036854775807
 cells : Cells w A (l.map strV)
section
variable {w w' : World} {A : Option Addr} {c : Nat} {l : List (List UInt8)}
theorem Sd.keep (h : Sd w A c l) (hk : ∀ p : Addr, p.block < w.heap.size → w'.cell? p = w.cell? p) : Sd w' A c l := ⟨h.le, h.cap, h.cells.keep hk⟩
theorem Sd.below (h : Sd w A c l) (hb : Below w.heap.size w w') : Sd w' A c l := h.keep fun _ hp => hb.cell hp
theorem Sd.at_ (h : Sd w A c l) {k : Nat} (hk : k < l.length) : ∃ ad, A = some ad ∧ w.cell? (ad.add k) = some (strV l[k]) := by
 obtain ⟨ad, e, hc⟩ := h.cells.at_ (k := k) (by simpa using hk)
 exact ⟨ad, e, by simpa using hc⟩
theorem Sd.of_own {base : Nat} {e : TypeId} {v : Value} {n : Nat} (h : w.ownsRow base e 1 v n (l.map strV)) (hn : n = l.length) :
    ∃ A c, v = .slice A l.length c ∧ Sd w A c l ∧ (∀ ad, A = some ad → ∃ g, ad = ⟨g, 0, none⟩ ∧ base ≤ g) ∧ (A = none → l.length = 0 ∧ c = 0) := by
 subst hn
 have h' := h
 rcases h.2 with ⟨rfl, hn⟩ | ⟨g, cap, cur, rfl, hb, hg, hnc, hcm, hcs, htake⟩
 ·refine ⟨none, 0, by rw [hn], ?_, by simp, fun _ => ⟨hn, rfl⟩⟩
  have : l = [] := List.eq_nil_of_length_eq_zero hn
  subst this
  exact ⟨by simp, by omega, fun h => by simp at h⟩
 ·exact ⟨_, _, rfl, ⟨hnc, by unfold maxLen at hcm; omega, fun _ => ⟨_, rfl, h'.cells (g := g) rfl⟩⟩, fun ad e => by cases e; exact ⟨_, rfl, hb⟩, by simp⟩
end
theorem Sd.of_own' {w : World} {base g cap n : Nat} {e : TypeId} {l : List (List UInt8)} (h : w.ownsRow base e 1 (.slice (some ⟨g, 0, none⟩) n cap) n (l.map strV)) (hn : n = l.length) : Sd w (some ⟨g, 0, none⟩) cap l := by
 obtain ⟨A, c, e1, h1, _⟩ := Sd.of_own h hn
 injection e1 with e1 e2 e3
 subst e1 e3
 exact h1
theorem strs_one {l : List (List UInt8)} : ∀ u ∈ l.map strV, u.oneCell' = true := by
 intro u hu
 obtain ⟨x, _, rfl⟩ := List.mem_map.1 hu
 rfl
def Tab (w : World) : Prop := TabBelow Tryz.prog w.heap.size w "internal/strconv.uint64pow10" .u64 pow10Tab
theorem Tab.below {w w' : World} (h : Tab w) (hb : Below w.heap.size w w') : Tab w' := fun w'' h' => h w'' (hb.trans (h'.mono hb.size))
theorem format_int (n : Int) (h0 : -9223372036854775808 ≤ n) (h1 : n ≤ 9223372036854775807) (w : World) (ht : Tab w) :
    Calls Tryz.prog 44 #[.int .i64 n, .int .i64 10] w fun e w' => e = .returned (.string (bs (itoa n))) ∧ Below w.heap.size w w' :=
 (Any.strconv_FormatInt_10 Tryz.lays173 n h0 h1 w ht.here).mono fun e w' ⟨h, k, os, hw⟩ => ⟨h, by rw [hw]; exact below_grow _ _ (Nat.le_refl _) _ _⟩
theorem strings_Join (bk o c : Nat) (xs : List (List UInt8)) (sep : List UInt8) (w : World) (hr : Sd w (some ⟨bk, o, none⟩) c xs) (hn : xs ≠ []) (hlen : (join xs sep).length ≤ 140737488355328) (hN : xs.length ≤ 140737488355328) :
    Calls Tryz.prog 42 #[.slice (some ⟨bk, o, none⟩) xs.length c, .string (bs sep)] w fun e w' => e = .returned (.string (bs (join xs sep))) ∧ Below w.heap.size w w' := by
 have e1 : (xs.map bs).map (·.data.toList) = xs := by
  rw [List.map_map]
  conv => rhs; rw [← List.map_id xs]
  exact List.map_congr_left fun l _ => bs_data l
 have hc : ∀ (j : Nat) x, (xs.map bs)[j]? = some x → w.cell? ⟨bk, o + j, none⟩ = some (.string x) := by
  intro j x hx
  obtain ⟨ad, ea, hc⟩ := hr.cells (by simp; exact List.length_pos_iff.2 hn)
  injection ea with ea
  subst ea
  have := hc j (.string x) (by rw [List.getElem?_map] at hx ⊢; cases h : xs[j]? <;> simp_all)
  have ea : (⟨bk, o, none⟩ : Addr).add j = ⟨bk, o + j, none⟩ := by unfold Addr.add; split <;> simp_all
  rwa [ea] at this
 have hbk : bk < w.heap.size := by
  have h0 : 0 < xs.length := List.length_pos_iff.2 hn
  have := hc 0 (bs xs[0]) (by simp [List.getElem?_eq_getElem h0])
  exact lc_ this
 have := Any.strings_Join Tryz.lays156 Tryz.builder_extra156 bk o c (xs.map bs) (bs sep) w hc hbk (by simpa using hN) (by simpa using hr.le) (by rw [e1, bs_data]; exact hlen)
 rw [e1, bs_data, List.length_map] at this
 exact this
def Bld (b : Nat) (l : List UInt8) (w : World) : Prop := IsBuilder 105 5 b b (byteCells l) w
theorem Bld.below {b : Nat} {l : List UInt8} {w w' : World} (h : Bld b l w) (hb : Below w.heap.size w w') : Bld b l w' := by
 have go : ∀ p, BuilderAt 105 5 b b p (byteCells l) w → BuilderAt 105 5 b b p (byteCells l) w' := by
  rintro p ⟨h1, v, h2, h3, h4⟩
  exact ⟨h1, v, (hb.block b (Array.getElem?_eq_some_iff.1 h2).1).trans h2, own_below h3 hb, h4⟩
 rcases h with h | h
 ·exact .inl (go _ h)
 ·exact .inr (go _ h)
theorem Bld.lt {b : Nat} {l : List UInt8} {w : World} (h : Bld b l w) : b < w.heap.size := by
 rcases h with h | h
 ·exact h.lt
 ·exact h.lt
theorem builder_write (b : Nat) (l s : List UInt8) (w : World) (h : Bld b l w) (hlen : l.length + s.length ≤ 140737488355328) :
    Calls Tryz.prog 41 #[.pointer (some ⟨b, 0, none⟩), .string (bs s)] w fun e w' => e = .returned (.tuple #[.int .i64 s.length, .nilIface]) ∧ Bld b (l ++ s) w' ∧ Below b w w' := by
 refine (Any.Builder_WriteString Tryz.lays166 Tryz.builder_extra166 b b (byteCells l) (bs s) w h (by rw [bs_size]; simpa [byteCells] using hlen) (Nat.le_of_lt h.lt)).mono ?_
 rintro e w' ⟨rfl, h1, h2⟩
 refine ⟨by rw [bs_size], .inr ?_, h2⟩
 have e : byteCells l ++ strCells (bs s) = byteCells (l ++ s) := by rw [byteCells_append]; congr 1
 rw [e] at h1
 exact h1
theorem builder_string (b : Nat) (l : List UInt8) (w : World) (h : Bld b l w) :
    Calls Tryz.prog 45 #[.pointer (some ⟨b, 0, none⟩)] w fun e w' => e = .returned (.string (bs l)) ∧ Below b w w' :=
 Any.Builder_String_any Tryz.lays169 Tryz.builder_extra169 b b l w h (Nat.le_of_lt h.lt)
end Go.Proofs.YtjcdkbalhleeeaaGreatDoor

namespace Go.Proofs.YtjcdkbalhleeeaaGreatDoor
open Go.Proofs Go.RowKit
open Go.Lib (itoa join)
theorem und_strs : Tryz.prog.underlying 22 = some (.slice 9) := by kernel_rfl
theorem inf_str : (Tryz.prog.info? 9).map (fun i => (i.zero, i.size, i.bytes)) = some (some (.string ByteArray.empty), 1, 16) := by kernel_rfl
set_option maxRecDepth 100000 in
theorem text_words (A : Option Addr) (l : List Int) (c : Nat) (w : World) (hr : Rd w A c l) (hs : smallB 999999 l = true) (hn : l.length ≤ 1000) (ht : Tab w) :
    Calls Tryz.prog 43 #[.slice A l.length c] w fun e w' => ∃ v, e = .returned v ∧ w'.ownsRow w.heap.size 9 1 v l.length ((l.map itoa).map strV) ∧ Below w.heap.size w w' := by
 have HR := h_ hr
 have HT := h_ ht
 obtain ⟨hl, hc, hsm, hcell⟩ := hr
 go_enter Tryz.func43, Tryz.ntmps43
 go_wp2_with fail
 go_loopw [3, 8] (fun o i wx => ∃ (k : Nat), k ≤ l.length ∧ i = .int .i64 k ∧ wx.ownsRow w.heap.size 9 1 o k (((l.take k).map itoa).map strV) ∧ Below w.heap.size w wx) (fun _ i _ => l.length - (intOf i).toNat)
 case atStart => exact ⟨0, by omega, rfl, by simpa using World.ownsRow_nil _ _ _ _, Below.refl _ _⟩
 case round =>
  obtain ⟨k, hk, rfl, hown, hbel⟩ := hrel
  rename World => U
  have HB := h_ hbel
  have HO := h_ hown
  have zB := hbel.size
  clear hown hbel
  by_cases hlt : k < l.length
  ·obtain ⟨ad, e0, hcl⟩ := (HR.out.below HB.out).at_ hlt
   obtain ⟨hx1, hx2⟩ := smallB_at hs hlt
   subst e0
   have hi0 : (k : Int) < (l.length : Int) := by omega
   have HF := h_ (format_int l[k] (by omega) (by omega) U (HT.out.below HB.out))
   have htk : ((l.take (k + 1)).map itoa).map strV = ((l.take k).map itoa).map strV ++ [Value.string (bs (itoa l[k]))] := by rw [List.take_succ_eq_append_getElem hlt, List.map_append, List.map_append]; rfl
   have HTK := h_ htk
   clear htk
   generalize bs (itoa l[k]) = sx at *
   generalize l[k] = x at *
   go_wp2_with (first
    | (go_at_call 44; refine HF.out.mono ?_; rintro e w1 ⟨rfl, hb1⟩)
    | (at_builtin; refine list_app1 rfl (.tmp 12) (.tmp 15) 22 9 (.string ByteArray.empty) 16 und_strs inf_str rfl rfl w.heap.size _ k _ (.string sx) rfl (own_below HO.out (hb1.alloc hb1.size _)) _ 1 rfl (cell_new1 _ _ _) rfl (by unfold maxLen; omega) (by omega) (by have := hb1.size; simp; omega) ?_; intro g cap w5 hown5 hg5 hat5 hlt5))
   go_wp2_with fail
   go_roundw
   case rel => exact ⟨k + 1, by omega, by go_num, by rw [HTK.out]; exact hown5, ((HB.out.trans (hb1.mono zB)).alloc (by have := hb1.size; omega) _).grown hg5 (by have := hb1.size; simp; omega) (own_ge HO.out (Nat.le_refl _))⟩
   case measure => simp [intOf]; omega
  ·obtain rfl : k = l.length := by omega
   have hi0 : decide ((l.length : Int) < (l.length : Int)) = false := by simp
   go_wp2_with fail
   go_ret
   have := HO.out
   rw [List.take_length] at this
   exact ⟨_, rfl, this, HB.out⟩
end Go.Proofs.YtjcdkbalhleeeaaGreatDoor

namespace Go.Proofs.YtjcdkbalhleeeaaGreatDoor
open Go.Proofs Go.RowKit
open Go.Lib (itoa join)
def numV (o : Option Int) : Value := .tuple #[.int .i64 (o.getD 0), .bool o.isSome]
theorem bs_at (l : List UInt8) {k : Nat} (hk : k < l.length) : ∀ h : k < (bs l).size, (bs l)[k]'h = l[k]'hk := fun h => by
 have : (bs l)[k]'h = (bs l).data[k]'h := rfl
 rw [this]
 simp [bs]
theorem bs_ext (l : List UInt8) (a b : Nat) : (bs l).extract a b = bs ((l.drop a).take (b - a)) := by unfold bs; rw [ByteArray.extract_mk]
theorem u8_ne {c d : UInt8} (h : c ≠ d) : ((c.toNat : Int) == (d.toNat : Int)) = false := by
 rw [beq_eq_false_iff_ne]
 intro e
 exact h (UInt8.toNat_inj.1 (by omega))
set_option maxRecDepth 100000 in
theorem ref9_Number (s : List UInt8) (w : World) (hs : s.length ≤ 1099511627776) :
    Calls Tryz.prog 10 #[.string (bs s)] w fun e w' => e = .returned (numV (numR s)) ∧ Below w.heap.size w w' := by
 by_cases hne : s = []
 ·subst hne
  have hz : (bs []).size = 0 := bs_size []
  have HNR := h_ (show numR [] = none from rfl)
  go_enter Tryz.func10, Tryz.ntmps10
  go_wp2_with fail
  refine bodyPost_ret (v := .tuple #[.int .i64 0, .bool false]) ?_ ?_ ?_
  ·simp [results, Tryz.results10, go_sem]
  ·rfl
  ·exact ⟨by rw [HNR.out]; rfl, Below.refl _ _⟩
 ·obtain ⟨c, r, rfl⟩ := List.exists_cons_of_ne_nil hne
  have hz : (bs (c :: r)).size = r.length + 1 := bs_size _
  have hi : ∀ h, (bs (c :: r))[0]'h = c := bs_at (c :: r) (k := 0) (by simp)
  by_cases hc : c = 45
  ·subst hc
   have hext : (bs (45 :: r)).extract 1 (r.length + 1) = bs r := by rw [bs_ext]; simp
   have hzr : (bs r).size = r.length := bs_size r
   have hbare : bare (45 :: r) = r := by simp [bare]
   by_cases h1 : r.length < 1
   ·have HNR := h_ (show numR (45 :: r) = none by rw [numR, if_pos (by simp only [odd, hbare, decide_eq_true_eq]; exact Or.inl h1)])
    have hd1 : decide ((r.length : Int) < 1) = true := by simp; omega
    go_enter Tryz.func10, Tryz.ntmps10
    go_wp2_with fail
    refine bodyPost_ret (v := .tuple #[.int .i64 0, .bool false]) ?_ ?_ ?_
    ·simp [results, Tryz.results10, go_sem]
    ·rfl
    ·exact ⟨by rw [HNR.out]; rfl, Below.refl _ _⟩
   have hd1 : decide ((r.length : Int) < 1) = false := by simp; omega
   by_cases h2 : 6 < r.length
   ·have HNR := h_ (show numR (45 :: r) = none by rw [numR, if_pos (by simp only [odd, hbare, decide_eq_true_eq]; exact Or.inr (Or.inl h2))])
    have hd2 : decide ((6 : Int) < (r.length : Int)) = true := by simp; omega
    go_enter Tryz.func10, Tryz.ntmps10
    go_wp2_with fail
    refine bodyPost_ret (v := .tuple #[.int .i64 0, .bool false]) ?_ ?_ ?_
    ·simp [results, Tryz.results10, go_sem]
    ·rfl
    ·exact ⟨by rw [HNR.out]; rfl, Below.refl _ _⟩
   have hd2 : decide ((6 : Int) < (r.length : Int)) = false := by simp; omega
   have hir := bs_at r (k := 0) (by omega)
   have hrh : r.head? = some (r[0]'(by omega)) := by rw [List.head?_eq_getElem?, List.getElem?_eq_getElem]
   by_cases h3 : r[0]'(by omega) = 48
   ·have HNR := h_ (show numR (45 :: r) = none by rw [numR, if_pos (by simp only [odd, hbare, decide_eq_true_eq]; exact Or.inr (Or.inr ⟨by rw [hrh, h3], Or.inr rfl⟩))])
    rw [h3] at hir
    have hpos : (0 : Int) < (r.length : Int) := by omega
    go_enter Tryz.func10, Tryz.ntmps10
    go_wp2_with fail
    all_goals
     refine bodyPost_ret (v := .tuple #[.int .i64 0, .bool false]) ?_ ?_ ?_
     ·simp [results, Tryz.results10, go_sem]
     ·rfl
     ·exact ⟨by rw [HNR.out]; rfl, Below.refl _ _⟩
   have HNR := h_ (show numR (45 :: r) = Option.map (fun (m : Nat) => -(m : Int)) (digs 0 r) by
    rw [numR, if_neg, hbare]
    ·simp
    ·simp only [odd, hbare, decide_eq_true_eq]
     rintro (q | q | ⟨q, _⟩)
     ·exact h1 q
     ·exact h2 q
     ·rw [hrh] at q; exact h3 (by simpa using q))
   have hne48 := u8_ne h3
   generalize r[0]'(by omega) = d at *
   have hne48' : ((d.toNat : Int) == 48) = false := hne48
   have hpos : (0 : Int) < (r.length : Int) := by omega
   have hposn : 0 < r.length := by omega
   clear hne48
   generalize r = t at *
   go_enter Tryz.func10, Tryz.ntmps10
   go_wp2_with fail
   go_loopw [6, 7] (fun v i wx => ∃ (k m : Nat), k ≤ t.length ∧ i = .int .i64 k ∧ v = .int .i64 m ∧ digs 0 (t.take k) = some m ∧ Below w.heap.size w wx) (fun _ i _ => t.length - (intOf i).toNat)
   case atStart => exact ⟨0, 0, by omega, rfl, rfl, rfl, Below.refl _ _⟩
   case round =>
    obtain ⟨k, m, hk, rfl, rfl, hm, hbel⟩ := hrel
    rename World => W
    have HB := h_ hbel
    clear hbel
    have hml := digs_small hm (by rw [List.length_take]; omega)
    by_cases hlt : k < t.length
    ·have hi0 : (k : Int) < (t.length : Int) := by omega
     have hik := bs_at t hlt
     have HTK := h_ (fun (hc : 48 ≤ (t[k]).toNat ∧ (t[k]).toNat ≤ 57) => digs_take hlt hm hc)
     have HBD := h_ (fun (hc : ¬ (48 ≤ (t[k]).toNat ∧ (t[k]).toNat ≤ 57)) => digs_bad 0 hlt hc)
     have h255 : (t[k]).toNat < 256 := UInt8.toNat_lt _
     generalize t[k] = x at *
     by_cases hlo : x.toNat < 48
     ·have hd1 : decide ((x.toNat : Int) < 48) = true := by simp; omega
      go_wp2_with fail
      refine bodyPost_ret (v := .tuple #[.int .i64 0, .bool false]) ?_ ?_ ?_
      ·simp [results, Tryz.results10, go_sem]
      ·rfl
      ·exact ⟨by rw [HNR.out, HBD.out (by omega)]; rfl, HB.out⟩
     ·by_cases hhi : 57 < x.toNat
      ·have hd1 : decide ((x.toNat : Int) < 48) = false := by simp; omega
       have hd2 : decide ((57 : Int) < (x.toNat : Int)) = true := by simp; omega
       go_wp2_with fail
       refine bodyPost_ret (v := .tuple #[.int .i64 0, .bool false]) ?_ ?_ ?_
       ·simp [results, Tryz.results10, go_sem]
       ·rfl
       ·exact ⟨by rw [HNR.out, HBD.out (by omega)]; rfl, HB.out⟩
      ·have hd1 : decide ((x.toNat : Int) < 48) = false := by simp; omega
       have hd2 : decide ((57 : Int) < (x.toNat : Int)) = false := by simp; omega
       have hw1 : IntKind.i64.wrap (10 * (m : Int)) = 10 * (m : Int) := IntWalk.i64_in _ (by omega)
       have hw2 : IntKind.u8.wrap ((x.toNat : Int) - 48) = (x.toNat : Int) - 48 := IntWalk.u8_in _ (by omega)
       have hw3 : IntKind.i64.wrap ((x.toNat : Int) - 48) = (x.toNat : Int) - 48 := IntWalk.i64_in _ (by omega)
       have hw4 : IntKind.i64.wrap (10 * (m : Int) + ((x.toNat : Int) - 48)) = 10 * (m : Int) + ((x.toNat : Int) - 48) := IntWalk.i64_in _ (by omega)
       go_wp2_with fail
       go_roundw
       case rel => exact ⟨k + 1, 10 * m + (x.toNat - 48), by omega, by go_num, by congr 1; omega, HTK.out (by omega), HB.out⟩
       case measure => simp [intOf]; omega
    ·obtain rfl : k = t.length := by omega
     have hd0 : decide ((t.length : Int) < (t.length : Int)) = false := by simp
     rw [List.take_length] at hm
     have hw1 : IntKind.i64.wrap (-(m : Int)) = -(m : Int) := IntWalk.i64_in _ (by omega)
     go_wp2_with fail
     refine bodyPost_ret (v := .tuple #[.int .i64 (-(m : Int)), .bool true]) ?_ ?_ ?_
     ·simp [results, Tryz.results10, go_sem]
     ·rfl
     ·exact ⟨by rw [HNR.out, hm]; rfl, HB.out⟩
  ·have hc45 : ((c.toNat : Int) == 45) = false := u8_ne hc
   have hbare : bare (c :: r) = c :: r := by simp [bare, hc]
   have hlen : (c :: r).length = r.length + 1 := rfl
   rw [← hlen] at hz
   have hpos : (0 : Int) < ((c :: r).length : Int) := by simp
   have hposn : 0 < (c :: r).length := by simp
   have hhead : (c :: r).head? = some c := rfl
   generalize c :: r = t at *
   clear hlen
   have hd1 : decide ((t.length : Int) < 1) = false := by simp; omega
   by_cases h2 : 6 < t.length
   ·have HNR := h_ (show numR t = none by rw [numR, if_pos (by simp only [odd, hbare, decide_eq_true_eq]; exact Or.inr (Or.inl h2))])
    have hd2 : decide ((6 : Int) < (t.length : Int)) = true := by simp; omega
    go_enter Tryz.func10, Tryz.ntmps10
    go_wp2_with fail
    refine bodyPost_ret (v := .tuple #[.int .i64 0, .bool false]) ?_ ?_ ?_
    ·simp [results, Tryz.results10, go_sem]
    ·rfl
    ·exact ⟨by rw [HNR.out]; rfl, Below.refl _ _⟩
   have hd2 : decide ((6 : Int) < (t.length : Int)) = false := by simp; omega
   have h45 : t.head? ≠ some 45 := by rw [hhead]; intro e; exact hc (by simpa using e)
   by_cases h3 : c = 48
   ·subst h3
    by_cases h4 : 1 < t.length
    ·have HNR := h_ (show numR t = none by rw [numR, if_pos (by simp only [odd, hbare, decide_eq_true_eq]; exact Or.inr (Or.inr ⟨hhead, Or.inl h4⟩))])
     have hd4 : decide ((1 : Int) < (t.length : Int)) = true := by simp; omega
     go_enter Tryz.func10, Tryz.ntmps10
     go_wp2_with fail
     refine bodyPost_ret (v := .tuple #[.int .i64 0, .bool false]) ?_ ?_ ?_
     ·simp [results, Tryz.results10, go_sem]
     ·rfl
     ·exact ⟨by rw [HNR.out]; rfl, Below.refl _ _⟩
    ·have hd4 : decide ((1 : Int) < (t.length : Int)) = false := by simp; omega
     have HNR := h_ (show numR t = Option.map (fun (m : Nat) => (m : Int)) (digs 0 t) by
      rw [numR, if_neg, hbare]
      ·simp [h45]
      ·simp only [odd, hbare, decide_eq_true_eq]
       rintro (q | q | ⟨_, q | q⟩)
       ·omega
       ·omega
       ·exact h4 q
       ·exact h45 q)
     go_enter Tryz.func10, Tryz.ntmps10
     go_wp2_with fail
     go_loopw [6, 7] (fun v i wx => ∃ (k m : Nat), k ≤ t.length ∧ i = .int .i64 k ∧ v = .int .i64 m ∧ digs 0 (t.take k) = some m ∧ Below w.heap.size w wx) (fun _ i _ => t.length - (intOf i).toNat)
     case atStart => exact ⟨0, 0, by omega, rfl, rfl, rfl, Below.refl _ _⟩
     case round =>
      obtain ⟨k, m, hk, rfl, rfl, hm, hbel⟩ := hrel
      rename World => W
      have HB := h_ hbel
      clear hbel
      have hml := digs_small hm (by rw [List.length_take]; omega)
      by_cases hlt : k < t.length
      ·have hi0 : (k : Int) < (t.length : Int) := by omega
       have hik := bs_at t hlt
       have HTK := h_ (fun (hc : 48 ≤ (t[k]).toNat ∧ (t[k]).toNat ≤ 57) => digs_take hlt hm hc)
       have HBD := h_ (fun (hc : ¬ (48 ≤ (t[k]).toNat ∧ (t[k]).toNat ≤ 57)) => digs_bad 0 hlt hc)
       have h255 : (t[k]).toNat < 256 := UInt8.toNat_lt _
       generalize t[k] = x at *
       by_cases hlo : x.toNat < 48
       ·have hd1 : decide ((x.toNat : Int) < 48) = true := by simp; omega
        go_wp2_with fail
        refine bodyPost_ret (v := .tuple #[.int .i64 0, .bool false]) ?_ ?_ ?_
        ·simp [results, Tryz.results10, go_sem]
        ·rfl
        ·exact ⟨by rw [HNR.out, HBD.out (by omega)]; rfl, HB.out⟩
       ·by_cases hhi : 57 < x.toNat
        ·have hd1 : decide ((x.toNat : Int) < 48) = false := by simp; omega
         have hd2 : decide ((57 : Int) < (x.toNat : Int)) = true := by simp; omega
         go_wp2_with fail
         refine bodyPost_ret (v := .tuple #[.int .i64 0, .bool false]) ?_ ?_ ?_
         ·simp [results, Tryz.results10, go_sem]
         ·rfl
         ·exact ⟨by rw [HNR.out, HBD.out (by omega)]; rfl, HB.out⟩
        ·have hd1 : decide ((x.toNat : Int) < 48) = false := by simp; omega
         have hd2 : decide ((57 : Int) < (x.toNat : Int)) = false := by simp; omega
         have hw1 : IntKind.i64.wrap (10 * (m : Int)) = 10 * (m : Int) := IntWalk.i64_in _ (by omega)
         have hw2 : IntKind.u8.wrap ((x.toNat : Int) - 48) = (x.toNat : Int) - 48 := IntWalk.u8_in _ (by omega)
         have hw3 : IntKind.i64.wrap ((x.toNat : Int) - 48) = (x.toNat : Int) - 48 := IntWalk.i64_in _ (by omega)
         have hw4 : IntKind.i64.wrap (10 * (m : Int) + ((x.toNat : Int) - 48)) = 10 * (m : Int) + ((x.toNat : Int) - 48) := IntWalk.i64_in _ (by omega)
         go_wp2_with fail
         go_roundw
         case rel => exact ⟨k + 1, 10 * m + (x.toNat - 48), by omega, by go_num, by congr 1; omega, HTK.out (by omega), HB.out⟩
         case measure => simp [intOf]; omega
      ·obtain rfl : k = t.length := by omega
       have hd0 : decide ((t.length : Int) < (t.length : Int)) = false := by simp
       rw [List.take_length] at hm
       have hw1 : IntKind.i64.wrap (-(m : Int)) = -(m : Int) := IntWalk.i64_in _ (by omega)
       go_wp2_with fail
       refine bodyPost_ret (v := .tuple #[.int .i64 ((m : Int)), .bool true]) ?_ ?_ ?_
       ·simp [results, Tryz.results10, go_sem]
       ·rfl
       ·exact ⟨by rw [HNR.out, hm]; rfl, HB.out⟩
   ·have hne48 : ((c.toNat : Int) == 48) = false := u8_ne h3
    have HNR := h_ (show numR t = Option.map (fun (m : Nat) => (m : Int)) (digs 0 t) by
     rw [numR, if_neg, hbare]
     ·simp [h45]
     ·simp only [odd, hbare, decide_eq_true_eq]
      rintro (q | q | ⟨q, _⟩)
      ·omega
      ·omega
      ·rw [hhead] at q; exact h3 (by simpa using q))
    go_enter Tryz.func10, Tryz.ntmps10
    go_wp2_with fail
    go_loopw [6, 7] (fun v i wx => ∃ (k m : Nat), k ≤ t.length ∧ i = .int .i64 k ∧ v = .int .i64 m ∧ digs 0 (t.take k) = some m ∧ Below w.heap.size w wx) (fun _ i _ => t.length - (intOf i).toNat)
    case atStart => exact ⟨0, 0, by omega, rfl, rfl, rfl, Below.refl _ _⟩
    case round =>
     obtain ⟨k, m, hk, rfl, rfl, hm, hbel⟩ := hrel
     rename World => W
     have HB := h_ hbel
     clear hbel
     have hml := digs_small hm (by rw [List.length_take]; omega)
     by_cases hlt : k < t.length
     ·have hi0 : (k : Int) < (t.length : Int) := by omega
      have hik := bs_at t hlt
      have HTK := h_ (fun (hc : 48 ≤ (t[k]).toNat ∧ (t[k]).toNat ≤ 57) => digs_take hlt hm hc)
      have HBD := h_ (fun (hc : ¬ (48 ≤ (t[k]).toNat ∧ (t[k]).toNat ≤ 57)) => digs_bad 0 hlt hc)
      have h255 : (t[k]).toNat < 256 := UInt8.toNat_lt _
      generalize t[k] = x at *
      by_cases hlo : x.toNat < 48
      ·have hd1 : decide ((x.toNat : Int) < 48) = true := by simp; omega
       go_wp2_with fail
       refine bodyPost_ret (v := .tuple #[.int .i64 0, .bool false]) ?_ ?_ ?_
       ·simp [results, Tryz.results10, go_sem]
       ·rfl
       ·exact ⟨by rw [HNR.out, HBD.out (by omega)]; rfl, HB.out⟩
      ·by_cases hhi : 57 < x.toNat
       ·have hd1 : decide ((x.toNat : Int) < 48) = false := by simp; omega
        have hd2 : decide ((57 : Int) < (x.toNat : Int)) = true := by simp; omega
        go_wp2_with fail
        refine bodyPost_ret (v := .tuple #[.int .i64 0, .bool false]) ?_ ?_ ?_
        ·simp [results, Tryz.results10, go_sem]
        ·rfl
        ·exact ⟨by rw [HNR.out, HBD.out (by omega)]; rfl, HB.out⟩
       ·have hd1 : decide ((x.toNat : Int) < 48) = false := by simp; omega
        have hd2 : decide ((57 : Int) < (x.toNat : Int)) = false := by simp; omega
        have hw1 : IntKind.i64.wrap (10 * (m : Int)) = 10 * (m : Int) := IntWalk.i64_in _ (by omega)
        have hw2 : IntKind.u8.wrap ((x.toNat : Int) - 48) = (x.toNat : Int) - 48 := IntWalk.u8_in _ (by omega)
        have hw3 : IntKind.i64.wrap ((x.toNat : Int) - 48) = (x.toNat : Int) - 48 := IntWalk.i64_in _ (by omega)
        have hw4 : IntKind.i64.wrap (10 * (m : Int) + ((x.toNat : Int) - 48)) = 10 * (m : Int) + ((x.toNat : Int) - 48) := IntWalk.i64_in _ (by omega)
        go_wp2_with fail
        go_roundw
        case rel => exact ⟨k + 1, 10 * m + (x.toNat - 48), by omega, by go_num, by congr 1; omega, HTK.out (by omega), HB.out⟩
        case measure => simp [intOf]; omega
     ·obtain rfl : k = t.length := by omega
      have hd0 : decide ((t.length : Int) < (t.length : Int)) = false := by simp
      rw [List.take_length] at hm
      have hw1 : IntKind.i64.wrap (-(m : Int)) = -(m : Int) := IntWalk.i64_in _ (by omega)
      go_wp2_with fail
      refine bodyPost_ret (v := .tuple #[.int .i64 ((m : Int)), .bool true]) ?_ ?_ ?_
      ·simp [results, Tryz.results10, go_sem]
      ·rfl
      ·exact ⟨by rw [HNR.out, hm]; rfl, HB.out⟩
end Go.Proofs.YtjcdkbalhleeeaaGreatDoor

namespace Go.Proofs.YtjcdkbalhleeeaaGreatDoor
open Go.Proofs Go.RowKit
open Go.Lib (itoa join)
theorem und_strG : Tryz.prog.underlying 22 = some (.slice 9) := by kernel_rfl
theorem inf_strG : (Tryz.prog.info? 9).map (fun i => (i.zero, i.size, i.bytes)) = some (some (.string ByteArray.empty), 1, 16) := by kernel_rfl
def RetNs (w : World) (l : List (List UInt8)) (e : Ending) (w' : World) : Prop :=
 Below w.heap.size w w' ∧ ((∃ v A c, numsR l = some v ∧ e = .returned (.tuple #[.slice A v.length c, .bool true]) ∧ Rd w' A c v ∧ ∀ ad, A = some ad → w.heap.size ≤ ad.block ∧ ad.block < w'.heap.size) ∨ (numsR l = none ∧ e = .returned (.tuple #[.slice none 0 0, .bool false])))
theorem add_add (a : Addr) (i j : Nat) : (a.add i).add j = a.add (i + j) := by
 unfold Addr.add
 by_cases hi : i = 0
 ·subst hi; simp
 ·by_cases hj : j = 0
  ·subst hj; simp [hi]
  ·rw [if_neg hj, if_neg hi, if_neg (by omega)]; simp; omega
theorem Sd.from_run {w : World} {aw : Addr} {c m : Nat} {ws : List (List UInt8)} (h : Sd w (some aw) c ws) (hm : ws.length = m) (i : Nat) (hi : i ≤ m) :
    ∃ AT cT, (∀ W, (Instr.slice 22 (.slice (some aw) m c) (some (.int .i64 i)) none none).run Tryz.prog W = .ok (.slice AT (m - i) cT) W) ∧ Sd w AT cT (ws.drop i) := by
 have hel : Tryz.prog.elem 22 = 9 := by kernel_rfl
 have hs : ∀ W, (sizeOf 9).run Tryz.prog W = .ok 1 W := Tryz.sizeOf9
 refine ⟨if c = i then some aw else some (aw.add i), c - i, fun W => ?_, ⟨?_, ?_, ?_⟩⟩
 ·rw [run_slice_l W 22 (some aw) m c (by rw [hel]; exact Tryz.underlying22) .i64 i (by omega) (by omega), hel, hs]
  simp only [Result.andThen, sliced, Int.toNat_natCast, Nat.mul_one, Option.map]
 ·have := h.le; rw [List.length_drop]; omega
 ·have := h.cap; omega
 ·intro h0
  simp only [List.length_map, List.length_drop] at h0
  obtain ⟨ad, e, hc⟩ := h.cells (by simp; omega)
  injection e with e
  subst e
  have hne : c ≠ i := by have := h.le; omega
  rw [if_neg hne]
  refine ⟨_, rfl, fun j u hu => ?_⟩
  rw [add_add]
  refine hc (i + j) u ?_
  rwa [List.map_drop, List.getElem?_drop] at hu
theorem Sd.to_run {w : World} {aw : Addr} {c m : Nat} {ws : List (List UInt8)} (h : Sd w (some aw) c ws) (hm : ws.length = m) (i : Nat) (hi : i ≤ m) :
    (∀ W, (Instr.slice 22 (.slice (some aw) m c) none (some (.int .i64 i)) none).run Tryz.prog W = .ok (.slice (some aw) i c) W) ∧ Sd w (some aw) c (ws.take i) := by
 have hel : Tryz.prog.elem 22 = 9 := by kernel_rfl
 have hs : ∀ W, (sizeOf 9).run Tryz.prog W = .ok 1 W := Tryz.sizeOf9
 have hle := h.le
 refine ⟨fun W => ?_, ⟨?_, h.cap, ?_⟩⟩
 ·rw [run_slice_h W 22 (some aw) m c (by rw [hel]; exact Tryz.underlying22) .i64 i (by omega) (by omega), hel, hs]
  simp [Result.andThen, sliced, Addr.add]
 ·rw [List.length_take]; omega
 ·intro h0
  simp only [List.length_map, List.length_take] at h0
  obtain ⟨ad, e, hc⟩ := h.cells (by simp; omega)
  refine ⟨ad, e, fun j u hu => hc j u ?_⟩
  rw [List.map_take, List.getElem?_take] at hu
  split at hu
  ·exact hu
  ·simp at hu
theorem RetNs.some_ {w w' : World} {l : List (List UInt8)} {e : Ending} {v : List Int} (h : RetNs w l e w') (hv : numsR l = some v) : Below w.heap.size w w' ∧ ∃ A c, e = .returned (.tuple #[.slice A v.length c, .bool true]) ∧ Rd w' A c v ∧ ∀ ad, A = some ad → w.heap.size ≤ ad.block ∧ ad.block < w'.heap.size := by
 obtain ⟨h1, ⟨u, A, c, e1, e2, e3, e4⟩ | ⟨e1, _⟩⟩ := h
 ·rw [hv] at e1; injection e1 with e1; subst e1
  exact ⟨h1, A, c, e2, e3, e4⟩
 ·rw [hv] at e1; cases e1
theorem RetNs.none_ {w w' : World} {l : List (List UInt8)} {e : Ending} (h : RetNs w l e w') (hv : numsR l = none) : Below w.heap.size w w' ∧ e = .returned (.tuple #[.slice none 0 0, .bool false]) := by
 obtain ⟨h1, ⟨u, A, c, e1, _⟩ | ⟨_, e2⟩⟩ := h
 ·rw [hv] at e1; cases e1
 ·exact ⟨h1, e2⟩
end Go.Proofs.YtjcdkbalhleeeaaGreatDoor

namespace Go.Proofs.YtjcdkbalhleeeaaGreatDoor
open Go.Proofs Go.RowKit
open Go.Lib (itoa join)
def RetPr (w : World) (r : PG × Int × Nat) (e : Ending) (w' : World) : Prop :=
 Below w.heap.size w w' ∧ ∃ A c A2 c2, e = .returned (.tuple #[.agg #[.slice A r.1.costs.length c, .slice A2 r.1.rows.length c2], .agg #[.int .i64 r.2.1, .int .i64 (r.2.2 : Nat)]]) ∧ Pg w' A c A2 c2 r.1
set_option maxRecDepth 100000 in
theorem post_two {fn : Func} (hres : fn.results = #[.cell 2 28, .cell 3 37]) {R : Ending → World → Prop} {a : Act} {Y : World} {b2 b3 : Nat} {X0 : Option Addr} {n0 c0 : Nat} {X1 : Option Addr} {n1 c1 : Nat} {y0 y1 : Int}
    (h2 : a.tmps.getD 2 undef = .pointer (some ⟨b2, 0, none⟩)) (h3 : a.tmps.getD 3 undef = .pointer (some ⟨b3, 0, none⟩)) (hB2 : Blk Y b2 28 #[.slice X0 n0 c0, .slice X1 n1 c1]) (hB3 : Blk Y b3 37 #[.int .i64 y0, .int .i64 y1]) (hd : a.defers = [])
    (hR : R (.returned (.tuple #[.agg #[.slice X0 n0 c0, .slice X1 n1 c1], .agg #[.int .i64 y0, .int .i64 y1]])) Y) : bodyPost Tryz.prog fn R .ret a Y := by
 have c0 := hB2.cell 0
 have c1 := hB2.cell 1
 have d0 := hB3.cell 0
 have d1 := hB3.cell 1
 simp at c0 c1 d0 d1
 refine bodyPost_ret ?_ hd hR
 have e2 : a.tmps[2]?.getD undef = .pointer (some ⟨b2, 0, none⟩) := by rw [← h2]; simp
 have e3 : a.tmps[3]?.getD undef = .pointer (some ⟨b3, 0, none⟩) := by rw [← h3]; simp
 simp [results, hres, go_sem, e2, e3, c0, c1, d0, d1]
theorem Pg.nil (w : World) : Pg w none 0 none 0 ⟨[], []⟩ := ⟨Rd.nil w, ⟨by simp, by omega, by simp, fun h => by simp at h⟩⟩
end Go.Proofs.YtjcdkbalhleeeaaGreatDoor
