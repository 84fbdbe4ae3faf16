/-
  Contracts of functions and plain laws that later parts of the proof use. The conditions stand in each theorem.
-/
import Derived.Test.YtjcdkbalhleeeaaGreatDoorG27
import Derived.Shelf.Strings.SplitShaped
import Derived.Shelf.Strconv.ErrVarParseInt
import Derived.Test.YtjcdkbalhleeeaaGreatDoorG14
namespace Go.Proofs
open Go.Shelf
def Tryz.lays146_ren : Go.Shelf.Ren := ⟨fun | 146 => 12 | 221 => 26 | 268 => 63 | 138 => 64 | 143 => 65 | 195 => 103 | 197 => 104 | 218 => 105 | 219 => 106 | 260 => 138 | 217 => 139 | 225 => 140 | 224 => 141 | 267 => 142 | 266 => 170 | 314 => 171 | n => n, fun | 9 => 9 | 31 => 22 | 3 => 3 | 4 => 4 | 0 => 0 | 105 => 169 | 21 => 21 | 5 => 5 | 46 => 166 | 119 => 227 | 139 => 230 | 138 => 229 | 146 => 231 | 51 => 197 | n => n, fun | 1 => 0 | 3 => 2 | 4 => 3 | n => n⟩
theorem Tryz.lays146 : LaysM.n146 Tryz.prog Tryz.lays146_ren := {
  mixed := by kernel_rfl
  f138 := Tryz.func64.trans (congrArg some (by kernel_rfl))
  f143 := Tryz.func65.trans (congrArg some (by kernel_rfl))
  f146 := Tryz.func12.trans (congrArg some (by kernel_rfl))
  f195 := Tryz.func103.trans (congrArg some (by kernel_rfl))
  f197 := Tryz.func104.trans (congrArg some (by kernel_rfl))
  f217 := Tryz.func139.trans (congrArg some (by kernel_rfl))
  f218 := Tryz.func105.trans (congrArg some (by kernel_rfl))
  f219 := Tryz.func106.trans (congrArg some (by kernel_rfl))
  f221 := Tryz.func26.trans (congrArg some (by kernel_rfl))
  f224 := Tryz.func141.trans (congrArg some (by kernel_rfl))
  f225 := Tryz.func140.trans (congrArg some (by kernel_rfl))
  f260 := Tryz.func138.trans (congrArg some (by kernel_rfl))
  f266 := Tryz.func170.trans (congrArg some (by kernel_rfl))
  f267 := Tryz.func142.trans (congrArg some (by kernel_rfl))
  f268 := Tryz.func63.trans (congrArg some (by kernel_rfl))
  f314 := Tryz.func171.trans (congrArg some (by kernel_rfl))
  t0 := Tryz.underlying0
  a0 := Tryz.isAgg0
  z0 := Tryz.sizeOf0
  v0 := Tryz.zeroValue0
  t3 := Tryz.underlying3
  a3 := Tryz.isAgg3
  z3 := Tryz.sizeOf3
  v3 := Tryz.zeroValue3
  t4 := Tryz.underlying4
  a4 := Tryz.isAgg4
  z4 := Tryz.sizeOf4
  v4 := Tryz.zeroValue4
  t5 := Tryz.underlying5
  a5 := Tryz.isAgg5
  z5 := Tryz.sizeOf5
  v5 := Tryz.zeroValue5
  t9 := Tryz.underlying9
  a9 := Tryz.isAgg9
  z9 := Tryz.sizeOf9
  v9 := Tryz.zeroValue9
  t21 := Tryz.underlying21
  a21 := Tryz.isAgg21
  z21 := Tryz.sizeOf21
  v21 := Tryz.zeroValue21
  t31 := Tryz.underlying22
  a31 := Tryz.isAgg22
  z31 := Tryz.sizeOf22
  v31 := Tryz.zeroValue22
  t46 := Tryz.underlying166
  a46 := Tryz.isAgg166
  z46 := Tryz.sizeOf166
  v46 := Tryz.zeroValue166
  t51 := Tryz.underlying197
  a51 := Tryz.isAgg197
  z51 := Tryz.sizeOf197
  v51 := Tryz.zeroValue197
  t105 := Tryz.underlying169
  a105 := Tryz.isAgg169
  z105 := Tryz.sizeOf169
  v105 := Tryz.zeroValue169
  t119 := Tryz.underlying227
  a119 := Tryz.isAgg227
  z119 := Tryz.sizeOf227
  t138 := Tryz.underlying229
  a138 := Tryz.isAgg229
  z138 := Tryz.sizeOf229
  v138 := Tryz.zeroValue229
  t139 := Tryz.underlying230
  a139 := Tryz.isAgg230
  z139 := Tryz.sizeOf230
  v139 := Tryz.zeroValue230
  t146 := Tryz.underlying231
  a146 := Tryz.isAgg231
  z146 := Tryz.sizeOf231
  v146 := Tryz.zeroValue231
  g1 := by kernel_rfl
  g3 := by kernel_rfl
  g4 := by kernel_rfl
  i0 := by kernel_rfl
  i3 := by kernel_rfl
  i4 := by kernel_rfl
  i5 := by kernel_rfl
  i9 := by kernel_rfl
  i21 := by kernel_rfl
  i31 := by kernel_rfl
  i46 := by kernel_rfl
  i51 := by kernel_rfl
  i105 := by kernel_rfl
  i138 := by kernel_rfl
  i139 := by kernel_rfl
  i146 := by kernel_rfl
  m1 := by kernel_rfl
  s1_3 := fun w h => Go.Proofs.cell_of_shapedOpen_int (zero := #[.int .i64 0]) (t := 3) h (of_decide_eq_true (by kernel_rfl)) (by kernel_rfl) rfl (by kernel_rfl) (by kernel_rfl) Tryz.underlying3
  m3 := by kernel_rfl
  m4 := by kernel_rfl
  }
def Tryz.lays174_ren : Go.Shelf.Ren := ⟨fun | 174 => 76 | 247 => 111 | 245 => 112 | 287 => 143 | 279 => 144 | 280 => 145 | 281 => 146 | 282 => 147 | 321 => 172 | 322 => 173 | 316 => 174 | 171 => 67 | 205 => 175 | 243 => 108 | 246 => 90 | 283 => 117 | 284 => 118 | 285 => 119 | 286 => 120 | 129 => 137 | 317 => 149 | 318 => 150 | 319 => 151 | 320 => 152 | 337 => 176 | 338 => 177 | n => n, fun | 9 => 9 | 3 => 3 | 2 => 2 | 75 => 107 | 85 => 145 | 4 => 4 | 167 => 199 | 5 => 5 | 53 => 178 | 175 => 200 | 46 => 166 | 168 => 202 | 37 => 87 | 0 => 0 | 210 => 235 | 21 => 21 | 127 => 154 | 145 => 244 | 143 => 242 | 171 => 177 | 173 => 181 | 212 => 207 | 51 => 197 | 20 => 20 | 213 => 208 | 232 => 245 | 233 => 246 | 80 => 84 | n => n, fun | 15 => 4 | 16 => 5 | 17 => 1 | 18 => 6 | 19 => 7 | n => n⟩
theorem Tryz.lays174 : LaysC.n174 Tryz.prog Tryz.lays174_ren := {
  mixed := by kernel_rfl
  f129 := Tryz.func137.trans (congrArg some (by kernel_rfl))
  f171 := Tryz.func67.trans (congrArg some (by kernel_rfl))
  f174 := Tryz.func76.trans (congrArg some (by kernel_rfl))
  f205 := Tryz.func175.trans (congrArg some (by kernel_rfl))
  f243 := Tryz.func108.trans (congrArg some (by kernel_rfl))
  f245 := Tryz.func112.trans (congrArg some (by kernel_rfl))
  f246 := Tryz.func90.trans (congrArg some (by kernel_rfl))
  f247 := Tryz.func111.trans (congrArg some (by kernel_rfl))
  f279 := Tryz.func144.trans (congrArg some (by kernel_rfl))
  f280 := Tryz.func145.trans (congrArg some (by kernel_rfl))
  f281 := Tryz.func146.trans (congrArg some (by kernel_rfl))
  f282 := Tryz.func147.trans (congrArg some (by kernel_rfl))
  f283 := Tryz.func117.trans (congrArg some (by kernel_rfl))
  f284 := Tryz.func118.trans (congrArg some (by kernel_rfl))
  f285 := Tryz.func119.trans (congrArg some (by kernel_rfl))
  f286 := Tryz.func120.trans (congrArg some (by kernel_rfl))
  f287 := Tryz.func143.trans (congrArg some (by kernel_rfl))
  f316 := Tryz.func174.trans (congrArg some (by kernel_rfl))
  f317 := Tryz.func149.trans (congrArg some (by kernel_rfl))
  f318 := Tryz.func150.trans (congrArg some (by kernel_rfl))
  f319 := Tryz.func151.trans (congrArg some (by kernel_rfl))
  f320 := Tryz.func152.trans (congrArg some (by kernel_rfl))
  f321 := Tryz.func172.trans (congrArg some (by kernel_rfl))
  f322 := Tryz.func173.trans (congrArg some (by kernel_rfl))
  f337 := Tryz.func176.trans (congrArg some (by kernel_rfl))
  f338 := Tryz.func177.trans (congrArg some (by kernel_rfl))
  t0 := Tryz.underlying0
  a0 := Tryz.isAgg0
  z0 := Tryz.sizeOf0
  v0 := Tryz.zeroValue0
  t2 := Tryz.underlying2
  a2 := Tryz.isAgg2
  z2 := Tryz.sizeOf2
  v2 := Tryz.zeroValue2
  t3 := Tryz.underlying3
  a3 := Tryz.isAgg3
  z3 := Tryz.sizeOf3
  v3 := Tryz.zeroValue3
  t4 := Tryz.underlying4
  a4 := Tryz.isAgg4
  z4 := Tryz.sizeOf4
  v4 := Tryz.zeroValue4
  t5 := Tryz.underlying5
  a5 := Tryz.isAgg5
  z5 := Tryz.sizeOf5
  v5 := Tryz.zeroValue5
  t9 := Tryz.underlying9
  a9 := Tryz.isAgg9
  z9 := Tryz.sizeOf9
  v9 := Tryz.zeroValue9
  t20 := Tryz.underlying20
  a20 := Tryz.isAgg20
  z20 := Tryz.sizeOf20
  v20 := Tryz.zeroValue20
  t21 := Tryz.underlying21
  a21 := Tryz.isAgg21
  z21 := Tryz.sizeOf21
  v21 := Tryz.zeroValue21
  t37 := Tryz.underlying87
  a37 := Tryz.isAgg87
  z37 := Tryz.sizeOf87
  v37 := Tryz.zeroValue87
  t46 := Tryz.underlying166
  a46 := Tryz.isAgg166
  z46 := Tryz.sizeOf166
  v46 := Tryz.zeroValue166
  t51 := Tryz.underlying197
  a51 := Tryz.isAgg197
  z51 := Tryz.sizeOf197
  v51 := Tryz.zeroValue197
  t53 := Tryz.underlying178
  a53 := Tryz.isAgg178
  z53 := Tryz.sizeOf178
  v53 := Tryz.zeroValue178
  t75 := Tryz.underlying107
  a75 := Tryz.isAgg107
  z75 := Tryz.sizeOf107
  v75 := Tryz.zeroValue107
  t85 := Tryz.underlying145
  a85 := Tryz.isAgg145
  z85 := Tryz.sizeOf145
  v85 := Tryz.zeroValue145
  t127 := Tryz.underlying154
  a127 := Tryz.isAgg154
  z127 := Tryz.sizeOf154
  v127 := Tryz.zeroValue154
  t143 := Tryz.underlying242
  a143 := Tryz.isAgg242
  z143 := Tryz.sizeOf242
  v143 := Tryz.zeroValue242
  t145 := Tryz.underlying244
  a145 := Tryz.isAgg244
  z145 := Tryz.sizeOf244
  v145 := Tryz.zeroValue244
  t167 := Tryz.underlying199
  a167 := Tryz.isAgg199
  z167 := Tryz.sizeOf199
  v167 := Tryz.zeroValue199
  t168 := Tryz.underlying202
  a168 := Tryz.isAgg202
  z168 := Tryz.sizeOf202
  v168 := Tryz.zeroValue202
  t171 := Tryz.underlying177
  a171 := Tryz.isAgg177
  z171 := Tryz.sizeOf177
  v171 := Tryz.zeroValue177
  t173 := Tryz.underlying181
  a173 := Tryz.isAgg181
  z173 := Tryz.sizeOf181
  v173 := Tryz.zeroValue181
  t175 := Tryz.underlying200
  a175 := Tryz.isAgg200
  z175 := Tryz.sizeOf200
  v175 := Tryz.zeroValue200
  t210 := Tryz.underlying235
  a210 := Tryz.isAgg235
  z210 := Tryz.sizeOf235
  v210 := Tryz.zeroValue235
  t212 := Tryz.underlying207
  a212 := Tryz.isAgg207
  z212 := Tryz.sizeOf207
  v212 := Tryz.zeroValue207
  t213 := Tryz.underlying208
  a213 := Tryz.isAgg208
  z213 := Tryz.sizeOf208
  t232 := Tryz.underlying245
  a232 := Tryz.isAgg245
  z232 := Tryz.sizeOf245
  v232 := Tryz.zeroValue245
  t233 := Tryz.underlying246
  a233 := Tryz.isAgg246
  z233 := Tryz.sizeOf246
  v233 := Tryz.zeroValue246
  g15 := by kernel_rfl
  g16 := by kernel_rfl
  g17 := by kernel_rfl
  g18 := by kernel_rfl
  g19 := by kernel_rfl
  t80 := Tryz.underlying84
  a80 := Tryz.isAgg84
  z80 := Tryz.sizeOf84
  v80 := Tryz.zeroValue84
  i0 := by kernel_rfl
  i2 := by kernel_rfl
  i3 := by kernel_rfl
  i4 := by kernel_rfl
  i5 := by kernel_rfl
  i9 := by kernel_rfl
  i20 := by kernel_rfl
  i21 := by kernel_rfl
  i37 := by kernel_rfl
  i46 := by kernel_rfl
  i51 := by kernel_rfl
  i53 := by kernel_rfl
  i75 := by kernel_rfl
  i80 := by kernel_rfl
  i85 := by kernel_rfl
  i127 := by kernel_rfl
  i143 := by kernel_rfl
  i145 := by kernel_rfl
  i167 := by kernel_rfl
  i168 := by kernel_rfl
  i171 := by kernel_rfl
  i173 := by kernel_rfl
  i175 := by kernel_rfl
  i210 := by kernel_rfl
  i212 := by kernel_rfl
  i232 := by kernel_rfl
  i233 := by kernel_rfl
  m15 := by kernel_rfl
  m16 := by kernel_rfl
  m17 := by kernel_rfl
  m18 := by kernel_rfl
  m19 := by kernel_rfl
  c0 := by kernel_rfl
  c2 := by kernel_rfl
  c3 := by kernel_rfl
  c4 := by kernel_rfl
  c5 := by kernel_rfl
  c9 := by kernel_rfl
  c20 := by kernel_rfl
  c21 := by kernel_rfl
  c37 := by kernel_rfl
  c46 := by kernel_rfl
  c51 := by kernel_rfl
  c53 := by kernel_rfl
  c75 := by kernel_rfl
  c80 := by kernel_rfl
  c85 := by kernel_rfl
  c127 := by kernel_rfl
  c143 := by kernel_rfl
  c145 := by kernel_rfl
  c167 := by kernel_rfl
  c168 := by kernel_rfl
  c171 := by kernel_rfl
  c173 := by kernel_rfl
  c175 := by kernel_rfl
  c210 := by kernel_rfl
  c212 := by kernel_rfl
  c213 := by kernel_rfl
  c232 := by kernel_rfl
  c233 := by kernel_rfl
  }
end Go.Proofs
namespace Go.Proofs.YtjcdkbalhleeeaaGreatDoor
open Go.Proofs Go.RowKit
open Go.Lib (itoa join)

/-- The library's two errors stand in their variables. -/
def Errs (w : World) : Prop := ∃ t1 p1 t2 p2, ∀ w', Below w.heap.size w w' → w'.var? Tryz.prog "strconv.ErrSyntax" = some #[.iface t1 p1] ∧ w'.var? Tryz.prog "strconv.ErrRange" = some #[.iface t2 p2]
theorem Errs.below {w w' : World} (h : Errs w) (hb : Below w.heap.size w w') : Errs w' := by
  obtain ⟨t1, p1, t2, p2, h⟩ := h
  exact ⟨t1, p1, t2, p2, fun w'' h' => h w'' (hb.trans (h'.mono hb.size))⟩
theorem below_bytes (w : World) (t : TypeId) (s : ByteArray) : Below w.heap.size w (Lib.bytesWorld w t s) :=
  ⟨rfl, rfl, rfl, by rw [Lib.bytesWorld_size]; omega, fun j hj => Lib.bytesWorld_at_old w t s j hj⟩
theorem parse_int (s : List UInt8) (w : World) (hs : s.length ≤ 1099511627776) (he : Errs w) :
    Calls Tryz.prog 76 #[.string (bs s), .int .i64 10, .int .i64 64] w fun e w' => Below w.heap.size w w' ∧
      ((∃ n, Lib.parseIntB 64 s = .ok n ∧ e = .returned (.tuple #[.int .i64 n, .nilIface])) ∨ ((∀ n, Lib.parseIntB 64 s ≠ .ok n) ∧ ∃ n t p, e = .returned (.tuple #[.int .i64 n, .iface t p]))) := by
  obtain ⟨t1, p1, t2, p2, he⟩ := he
  obtain ⟨he1, he2⟩ := he w (Below.refl _ _)
  have hd : (bs s).data.toList = s := bs_data s
  have hz : (bs s).size = s.length := bs_size s
  rcases h : Lib.parseIntB 64 s with n | _ | _
  · refine (Any.strconv_ParseInt_10_at64_ok Tryz.lays174 (bs s) (by omega) n (by rw [hd]; exact h) w).mono ?_
    rintro e w' ⟨rfl, rfl | ⟨t, rfl⟩⟩
    · exact ⟨Below.refl _ _, Or.inl ⟨n, rfl, rfl⟩⟩
    · exact ⟨below_bytes _ _ _, Or.inl ⟨n, rfl, rfl⟩⟩
  · refine (Any.strconv_ParseInt_10_at64_syntax_var Tryz.lays174 (bs s) (by omega) (by rw [hd]; exact h) t1 p1 w he1).mono ?_
    rintro e w' ⟨N, rfl, _, _, hb⟩
    exact ⟨hb, Or.inr ⟨by simp, _, _, _, rfl⟩⟩
  · refine (Any.strconv_ParseInt_10_at64_range_var Tryz.lays174 (bs s) (by omega) (by rw [hd]; exact h) t2 p2 w he2).mono ?_
    rintro e w' ⟨N, rfl, _, _, hb⟩
    exact ⟨hb, Or.inr ⟨by simp, _, _, _, rfl⟩⟩
/-- The library's bound stands in its variable. -/
def MaxL (w : World) : Prop := ∃ m, ∀ w', Below w.heap.size w w' → w'.cell? ⟨0, 0, none⟩ = some (.int .i64 m)
theorem MaxL.below {w w' : World} (h : MaxL w) (hb : Below w.heap.size w w') : MaxL w' := by
  obtain ⟨m, h⟩ := h
  exact ⟨m, fun w'' h' => h w'' (hb.trans (h'.mono hb.size))⟩
theorem split_cut (s : List UInt8) (c : UInt8) : Lib.splitB (bs [c]) 0 (Lib.countB (bs s) (bs [c])) (bs s) = (cutB c s).map bs ∧ Lib.countB (bs s) (bs [c]) + 1 = (cutB c s).length := by
  have hc : Lib.countB (bs s) (bs [c]) = s.count c := by
    show Lib.count (bs s).data.toList (bs [c]).data.toList = _
    rw [bs_data, bs_data, Lib.count_one]
  have h1 := Lib.splitB_data (bs [c]) 0 (Lib.countB (bs s) (bs [c])) (bs s)
  rw [bs_data, bs_data, hc, splitK_cut c s.length s (Nat.le_refl _)] at h1
  refine ⟨?_, by rw [hc, cutB_length]⟩
  rw [hc, ← h1, List.map_map]
  conv => lhs; rw [← List.map_id (Lib.splitB (bs [c]) 0 (s.count c) (bs s))]
  exact List.map_congr_left fun x _ => (bs_of x).symm
theorem strings_Split (s : List UInt8) (c : UInt8) (w : World) (hs : s.length ≤ 1073741824) (hw : MaxL w) :
    Calls Tryz.prog 12 #[.string (bs s), .string (bs [c])] w fun e w' => ∃ A cap, e = .returned (.slice A (cutB c s).length cap) ∧ Sd w' A cap (cutB c s) ∧ Below w.heap.size w w' ∧ ∀ ad, A = some ad → w.heap.size ≤ ad.block := by
  obtain ⟨m, hm⟩ := hw
  obtain ⟨h1, h2⟩ := split_cut s c
  refine (Any.strings_Split { Tryz.lays146 with } Tryz.lays146.i9 (bs s) (bs [c]) m w (by rw [bs_size]; omega) (hm w (Below.refl _ _)) (by rw [bs_size]; simp)).mono ?_
  rintro e w' ⟨rfl, rfl⟩
  rw [h1, h2]
  refine ⟨_, _, rfl, ⟨Nat.le_refl _, ?_, fun h0 => ⟨_, rfl, fun j u hu => ?_⟩⟩, (Below.refl _ _).alloc (Nat.le_refl _) _, fun ad e => by cases e; exact Nat.le_refl _⟩
  · have := cut_small (c := c) (s := s); omega
  · rw [addzG, cell_of_row _ w.heap.size j _ _ (0, 0) (heap_alloc_new w _), List.map_map]
    simpa using hu
end Go.Proofs.YtjcdkbalhleeeaaGreatDoor

namespace Go.Proofs.YtjcdkbalhleeeaaGreatDoor
open Go.Proofs Go.RowKit
open Go.Lib (itoa join)

theorem parse_ok (s : List UInt8) (w : World) (hs : s.length ≤ 1099511627776) (he : Errs w) {n : Int} (h : Lib.parseIntB 64 s = .ok n) :
    Calls Tryz.prog 76 #[.string (bs s), .int .i64 10, .int .i64 64] w fun e w' => e = .returned (.tuple #[.int .i64 n, .nilIface]) ∧ Below w.heap.size w w' := by
  refine (parse_int s w hs he).mono ?_
  rintro e w' ⟨hb, ⟨m, h1, rfl⟩ | ⟨h1, _⟩⟩
  · rw [h] at h1; injection h1 with h1; subst h1; exact ⟨rfl, hb⟩
  · exact absurd h (h1 n)
theorem parse_bad (s : List UInt8) (w : World) (hs : s.length ≤ 1099511627776) (he : Errs w) (h : ∀ n, Lib.parseIntB 64 s ≠ .ok n) :
    Calls Tryz.prog 76 #[.string (bs s), .int .i64 10, .int .i64 64] w fun e w' => ∃ n t p, e = .returned (.tuple #[.int .i64 n, .iface t p]) ∧ Below w.heap.size w w' := by
  refine (parse_int s w hs he).mono ?_
  rintro e w' ⟨hb, ⟨m, h1, rfl⟩ | ⟨_, n, t, p, rfl⟩⟩
  · exact absurd h1 (h m)
  · exact ⟨n, t, p, rfl, hb⟩

set_option maxRecDepth 100000 in
theorem text_numbers (A : Option Addr) (c : Nat) (l : List (List UInt8)) (w : World) (hr : Sd w A c l) (hn : l.length ≤ 1099511627776) (hx : ∀ x ∈ l, x.length ≤ 1099511627776) (ht : Tab w) (he : Errs w) :
    Calls Tryz.prog 30 #[.slice A l.length c] w (RetNs w l) := by
  have HR := Lib.hid hr
  have HT := Lib.hid ht
  have HE := Lib.hid he
  clear ht he
  obtain ⟨hl, hc, hcell⟩ := hr
  go_enter Tryz.func30, Tryz.ntmps30
  go_wp2_with fail
  go_loopw [4, 11] (fun o i wx => ∃ (k : Nat) (vs : List Int), k ≤ l.length ∧ i = .int .i64 k ∧ numsR (l.take k) = some vs ∧ wx.ownsRow w.heap.size 2 1 o k (vs.map (Value.int .i64)) ∧ Below w.heap.size w wx) (fun _ i _ => l.length - (intOf i).toNat)
  case atStart => exact ⟨0, [], by omega, rfl, rfl, World.ownsRow_nil _ _ _ _, Below.refl _ _⟩
  case round =>
    obtain ⟨k, vs, hk, rfl, hvs, hown, hbel⟩ := hrel
    rename World => U
    have HB := Lib.hid hbel
    have HO := Lib.hid hown
    have zB := hbel.size
    clear hown hbel
    by_cases hlt : k < l.length
    · obtain ⟨ad, e0, hcl⟩ := (HR.out.below HB.out).at_ hlt
      subst e0
      have hi0 : (k : Int) < (l.length : Int) := by omega
      have hlx := hx _ (List.getElem_mem hlt)
      have HTK := Lib.hid (fun (n : Int) (h : numR l[k] = some n) => numsR_take hlt hvs h)
      have HNO := Lib.hid (fun (h : numR l[k] = none) => numsR_none hlt h)
      unfold strV at hcl
      have HTU := Lib.hid (HT.out.below HB.out)
      have HEU := Lib.hid (HE.out.below HB.out)
      have HNP := Lib.hid (numP_eq l[k])
      generalize l[k] = s at *
      by_cases hp : ∃ n, Lib.parseIntB 64 s = .ok n
      · obtain ⟨n, hp⟩ := hp
        have HPI := Lib.hid (parse_ok s U hlx HEU.out hp)
        have HNR := Lib.hid (show numR s = if -999999 ≤ n ∧ n ≤ 999999 ∧ itoa n = s then some n else none by rw [← HNP.out, numP, hp])
        by_cases h1 : n < -999999
        · have hd1 : decide (n < -999999) = true := by simpa using h1
          have HNN := Lib.hid (HNO.out (by rw [HNR.out, if_neg (by omega)]))
          go_wp2_with (go_at_call 76; refine HPI.out.mono ?_; rintro e w1 ⟨rfl, hb1⟩)
          refine bodyPost_ret (v := .tuple #[.slice none 0 0, .bool false]) ?_ ?_ ?_
          · simp [results, Tryz.results30, go_sem]
          · rfl
          · exact ⟨HB.out.trans (hb1.mono zB), Or.inr ⟨HNN.out, rfl⟩⟩
        have hd1 : decide (n < -999999) = false := by simpa using h1
        by_cases h2 : 999999 < n
        · have hd2 : decide (999999 < n) = true := by simpa using h2
          have HNN := Lib.hid (HNO.out (by rw [HNR.out, if_neg (by omega)]))
          go_wp2_with (go_at_call 76; refine HPI.out.mono ?_; rintro e w1 ⟨rfl, hb1⟩)
          refine bodyPost_ret (v := .tuple #[.slice none 0 0, .bool false]) ?_ ?_ ?_
          · simp [results, Tryz.results30, go_sem]
          · rfl
          · exact ⟨HB.out.trans (hb1.mono zB), Or.inr ⟨HNN.out, rfl⟩⟩
        have hd2 : decide (999999 < n) = false := by simpa using h2
        have HFI := Lib.hid (fun (W : World) (hW : Below U.heap.size U W) => format_int n (by omega) (by omega) W (HTU.out.below hW))
        have hq : ((bs (itoa n)).toList == (bs s).toList) = decide (itoa n = s) := by rw [bs_list, bs_list]; exact Bool.beq_eq_decide_eq _ _
        by_cases h3 : itoa n = s
        · have hd3 : decide (itoa n = s) = true := by simpa using h3
          have HTN := Lib.hid (HTK.out n (by rw [HNR.out, if_pos ⟨by omega, by omega, h3⟩]))
          rw [hd3] at hq
          clear h3 hd3 hp
          generalize bs (itoa n) = t1 at *
          generalize bs s = t0 at *
          go_wp2_with (first
            | (go_at_call 76; refine HPI.out.mono ?_; rintro e w1 ⟨rfl, hb1⟩)
            | (go_at_call 44; refine (HFI.out _ hb1).mono ?_; rintro e w2 ⟨rfl, hb2⟩; have hb3 := hb1.trans (hb2.mono hb1.size))
            | (at_builtin; refine list_app1 rfl (.tmp 36) (.tmp 38) 25 2 (.int .i64 0) 8 und_i64s inf_i64 rfl rfl w.heap.size _ k _ (.int .i64 n) rfl (own_below HO.out (hb3.alloc hb3.size _)) _ 1 rfl (cell_new1 _ _ _) rfl (by unfold maxLen; omega) (by omega) (by have := hb3.size; simp; omega) ?_; intro g cap w5 hown5 hg5 hat5 hlt5))
          go_roundw
          case rel => exact ⟨k + 1, vs ++ [n], by omega, by go_num, HTN.out, by rw [List.map_append]; exact hown5, ((HB.out.trans (hb3.mono zB)).alloc (by have := hb3.size; omega) _).grown hg5 (by have := hb3.size; simp; omega) (own_ge HO.out (Nat.le_refl _))⟩
          case measure => simp [intOf]; omega
        · have hd3 : decide (itoa n = s) = false := by simpa using h3
          have HNN := Lib.hid (HNO.out (by rw [HNR.out, if_neg (fun q => h3 q.2.2)]))
          rw [hd3] at hq
          clear h3 hd3 hp
          generalize bs (itoa n) = t1 at *
          generalize bs s = t0 at *
          go_wp2_with (first
            | (go_at_call 76; refine HPI.out.mono ?_; rintro e w2 ⟨rfl, hb2⟩)
            | (go_at_call 44; refine (HFI.out _ hb2).mono ?_; rintro e w1 ⟨rfl, hb4⟩; have hb1 := hb2.trans (hb4.mono hb2.size)))
          refine bodyPost_ret (v := .tuple #[.slice none 0 0, .bool false]) ?_ ?_ ?_
          · simp [results, Tryz.results30, go_sem]
          · rfl
          · exact ⟨HB.out.trans (hb1.mono zB), Or.inr ⟨HNN.out, rfl⟩⟩
      · have HPB := Lib.hid (parse_bad s U hlx HEU.out (fun n e => hp ⟨n, e⟩))
        have HNN := Lib.hid (HNO.out (by
          rw [← HNP.out]; unfold numP
          rcases h : Lib.parseIntB 64 s with n | _ | _
          · exact absurd ⟨n, h⟩ hp
          · rfl
          · rfl))
        generalize bs s = t0 at *
        go_wp2_with (go_at_call 76; refine HPB.out.mono ?_; rintro e w1 ⟨n, t, p, rfl, hb1⟩)
        refine bodyPost_ret (v := .tuple #[.slice none 0 0, .bool false]) ?_ ?_ ?_
        · simp [results, Tryz.results30, go_sem]
        · rfl
        · exact ⟨HB.out.trans (hb1.mono zB), Or.inr ⟨HNN.out, rfl⟩⟩
    · obtain rfl : k = l.length := by omega
      have hi0 : decide ((l.length : Int) < (l.length : Int)) = false := by simp
      rw [List.take_length] at hvs
      have hvl := (numsR_small hvs).2
      obtain ⟨A5, c5, rfl, hrd, _⟩ := Rd.of_ownv HO.out hvl.symm (by omega)
      have hnw : ∀ ad, A5 = some ad → w.heap.size ≤ ad.block ∧ ad.block < U.heap.size := fun ad e => HO.out.lt ad.block (by rw [e]; rfl)
      go_wp2_with fail
      refine bodyPost_ret (v := .tuple #[.slice A5 vs.length c5, .bool true]) ?_ ?_ ?_
      · simp [results, Tryz.results30, go_sem]
      · rfl
      · exact ⟨HB.out, Or.inl ⟨vs, A5, c5, hvs, rfl, hrd, hnw⟩⟩
end Go.Proofs.YtjcdkbalhleeeaaGreatDoor

namespace Go.Proofs.YtjcdkbalhleeeaaGreatDoor
open Go.Proofs Go.RowKit
open Go.Lib (itoa join)

set_option maxRecDepth 100000 in
theorem drive_numbers (A : Option Addr) (c : Nat) (l : List (List UInt8)) (w : World) (hr : Sd w A c l) (hn : l.length ≤ 1099511627776) (hx : ∀ x ∈ l, x.length ≤ 1099511627776) (ht : Tab w) (he : Errs w) :
    Calls Tryz.prog 68 #[.slice A l.length c] w (RetNs w l) := by
  have HR := Lib.hid hr
  have HT := Lib.hid ht
  have HE := Lib.hid he
  clear ht he
  obtain ⟨hl, hc, hcell⟩ := hr
  go_enter Tryz.func68, Tryz.ntmps68
  go_wp2_with fail
  go_loopw [4, 11] (fun o i wx => ∃ (k : Nat) (vs : List Int), k ≤ l.length ∧ i = .int .i64 k ∧ numsR (l.take k) = some vs ∧ wx.ownsRow w.heap.size 2 1 o k (vs.map (Value.int .i64)) ∧ Below w.heap.size w wx) (fun _ i _ => l.length - (intOf i).toNat)
  case atStart => exact ⟨0, [], by omega, rfl, rfl, World.ownsRow_nil _ _ _ _, Below.refl _ _⟩
  case round =>
    obtain ⟨k, vs, hk, rfl, hvs, hown, hbel⟩ := hrel
    rename World => U
    have HB := Lib.hid hbel
    have HO := Lib.hid hown
    have zB := hbel.size
    clear hown hbel
    by_cases hlt : k < l.length
    · obtain ⟨ad, e0, hcl⟩ := (HR.out.below HB.out).at_ hlt
      subst e0
      have hi0 : (k : Int) < (l.length : Int) := by omega
      have hlx := hx _ (List.getElem_mem hlt)
      have HTK := Lib.hid (fun (n : Int) (h : numR l[k] = some n) => numsR_take hlt hvs h)
      have HNO := Lib.hid (fun (h : numR l[k] = none) => numsR_none hlt h)
      unfold strV at hcl
      have HTU := Lib.hid (HT.out.below HB.out)
      have HEU := Lib.hid (HE.out.below HB.out)
      have HNP := Lib.hid (numP_eq l[k])
      generalize l[k] = s at *
      by_cases hp : ∃ n, Lib.parseIntB 64 s = .ok n
      · obtain ⟨n, hp⟩ := hp
        have HPI := Lib.hid (parse_ok s U hlx HEU.out hp)
        have HNR := Lib.hid (show numR s = if -999999 ≤ n ∧ n ≤ 999999 ∧ itoa n = s then some n else none by rw [← HNP.out, numP, hp])
        by_cases h1 : n < -999999
        · have hd1 : decide (n < -999999) = true := by simpa using h1
          have HNN := Lib.hid (HNO.out (by rw [HNR.out, if_neg (by omega)]))
          go_wp2_with (go_at_call 76; refine HPI.out.mono ?_; rintro e w1 ⟨rfl, hb1⟩)
          refine bodyPost_ret (v := .tuple #[.slice none 0 0, .bool false]) ?_ ?_ ?_
          · simp [results, Tryz.results68, go_sem]
          · rfl
          · exact ⟨HB.out.trans (hb1.mono zB), Or.inr ⟨HNN.out, rfl⟩⟩
        have hd1 : decide (n < -999999) = false := by simpa using h1
        by_cases h2 : 999999 < n
        · have hd2 : decide (999999 < n) = true := by simpa using h2
          have HNN := Lib.hid (HNO.out (by rw [HNR.out, if_neg (by omega)]))
          go_wp2_with (go_at_call 76; refine HPI.out.mono ?_; rintro e w1 ⟨rfl, hb1⟩)
          refine bodyPost_ret (v := .tuple #[.slice none 0 0, .bool false]) ?_ ?_ ?_
          · simp [results, Tryz.results68, go_sem]
          · rfl
          · exact ⟨HB.out.trans (hb1.mono zB), Or.inr ⟨HNN.out, rfl⟩⟩
        have hd2 : decide (999999 < n) = false := by simpa using h2
        have HFI := Lib.hid (fun (W : World) (hW : Below U.heap.size U W) => format_int n (by omega) (by omega) W (HTU.out.below hW))
        have hq : ((bs (itoa n)).toList == (bs s).toList) = decide (itoa n = s) := by rw [bs_list, bs_list]; exact Bool.beq_eq_decide_eq _ _
        by_cases h3 : itoa n = s
        · have hd3 : decide (itoa n = s) = true := by simpa using h3
          have HTN := Lib.hid (HTK.out n (by rw [HNR.out, if_pos ⟨by omega, by omega, h3⟩]))
          rw [hd3] at hq
          clear h3 hd3 hp
          generalize bs (itoa n) = t1 at *
          generalize bs s = t0 at *
          go_wp2_with (first
            | (go_at_call 76; refine HPI.out.mono ?_; rintro e w1 ⟨rfl, hb1⟩)
            | (go_at_call 44; refine (HFI.out _ hb1).mono ?_; rintro e w2 ⟨rfl, hb2⟩; have hb3 := hb1.trans (hb2.mono hb1.size))
            | (at_builtin; refine list_app1 rfl (.tmp 36) (.tmp 38) 25 2 (.int .i64 0) 8 und_i64s inf_i64 rfl rfl w.heap.size _ k _ (.int .i64 n) rfl (own_below HO.out (hb3.alloc hb3.size _)) _ 1 rfl (cell_new1 _ _ _) rfl (by unfold maxLen; omega) (by omega) (by have := hb3.size; simp; omega) ?_; intro g cap w5 hown5 hg5 hat5 hlt5))
          go_roundw
          case rel => exact ⟨k + 1, vs ++ [n], by omega, by go_num, HTN.out, by rw [List.map_append]; exact hown5, ((HB.out.trans (hb3.mono zB)).alloc (by have := hb3.size; omega) _).grown hg5 (by have := hb3.size; simp; omega) (own_ge HO.out (Nat.le_refl _))⟩
          case measure => simp [intOf]; omega
        · have hd3 : decide (itoa n = s) = false := by simpa using h3
          have HNN := Lib.hid (HNO.out (by rw [HNR.out, if_neg (fun q => h3 q.2.2)]))
          rw [hd3] at hq
          clear h3 hd3 hp
          generalize bs (itoa n) = t1 at *
          generalize bs s = t0 at *
          go_wp2_with (first
            | (go_at_call 76; refine HPI.out.mono ?_; rintro e w2 ⟨rfl, hb2⟩)
            | (go_at_call 44; refine (HFI.out _ hb2).mono ?_; rintro e w1 ⟨rfl, hb4⟩; have hb1 := hb2.trans (hb4.mono hb2.size)))
          refine bodyPost_ret (v := .tuple #[.slice none 0 0, .bool false]) ?_ ?_ ?_
          · simp [results, Tryz.results68, go_sem]
          · rfl
          · exact ⟨HB.out.trans (hb1.mono zB), Or.inr ⟨HNN.out, rfl⟩⟩
      · have HPB := Lib.hid (parse_bad s U hlx HEU.out (fun n e => hp ⟨n, e⟩))
        have HNN := Lib.hid (HNO.out (by
          rw [← HNP.out]; unfold numP
          rcases h : Lib.parseIntB 64 s with n | _ | _
          · exact absurd ⟨n, h⟩ hp
          · rfl
          · rfl))
        generalize bs s = t0 at *
        go_wp2_with (go_at_call 76; refine HPB.out.mono ?_; rintro e w1 ⟨n, t, p, rfl, hb1⟩)
        refine bodyPost_ret (v := .tuple #[.slice none 0 0, .bool false]) ?_ ?_ ?_
        · simp [results, Tryz.results68, go_sem]
        · rfl
        · exact ⟨HB.out.trans (hb1.mono zB), Or.inr ⟨HNN.out, rfl⟩⟩
    · obtain rfl : k = l.length := by omega
      have hi0 : decide ((l.length : Int) < (l.length : Int)) = false := by simp
      rw [List.take_length] at hvs
      have hvl := (numsR_small hvs).2
      obtain ⟨A5, c5, rfl, hrd, _⟩ := Rd.of_ownv HO.out hvl.symm (by omega)
      have hnw : ∀ ad, A5 = some ad → w.heap.size ≤ ad.block ∧ ad.block < U.heap.size := fun ad e => HO.out.lt ad.block (by rw [e]; rfl)
      go_wp2_with fail
      refine bodyPost_ret (v := .tuple #[.slice A5 vs.length c5, .bool true]) ?_ ?_ ?_
      · simp [results, Tryz.results68, go_sem]
      · rfl
      · exact ⟨HB.out, Or.inl ⟨vs, A5, c5, hvs, rfl, hrd, hnw⟩⟩
end Go.Proofs.YtjcdkbalhleeeaaGreatDoor

namespace Go.Proofs.YtjcdkbalhleeeaaGreatDoor
open Go.Proofs Go.RowKit
open Go.Lib (itoa join)

/-- Which of the five a line asks for. -/
def askK (s : List UInt8) : Option Nat :=
  if s = wSolve then some 0 else if s = wShow then some 1 else if (cutB 32 s).headD [] = wLook then some 2 else if (cutB 32 s).headD [] = wWalk then some 3 else if (cutB 32 s).headD [] = wSweep then some 4 else none
def ansK (p : PG) (l : List Int) : Nat → List UInt8
  | 0 => solS p
  | 1 => shoS p
  | 2 => lokS p l
  | 3 => wlkS p l
  | _ => swpS p l
theorem askS_eq (p : PG) (s : List UInt8) (l : List Int) : askS swpS p s l = (askK s).map (ansK p l) := by
  unfold askS askK
  split
  · rfl
  · split
    · rfl
    · split
      · rfl
      · split
        · rfl
        · split <;> rfl
/-- The function that asked hands back. -/
def AskF (w : World) (g k : Nat) (l : List Int) (fv : Value) : Prop :=
  (k = 0 ∧ fv = .func (.func 71) #[.pointer (some ⟨g, 0, none⟩)] #[]) ∨
  (k = 1 ∧ ∃ q, fv = .func (.func 72) #[] #[.pointer (some ⟨q, 0, none⟩)] ∧ w.cell? ⟨q, 0, none⟩ = some (.pointer (some ⟨g, 0, none⟩))) ∨
  (∃ q1 q2 B cb m, fv = .func (.func 70) #[] #[.pointer (some ⟨q1, 0, none⟩), .pointer (some ⟨q2, 0, none⟩)] ∧ w.cell? ⟨q1, 0, none⟩ = some (.func (.func m) #[.pointer (some ⟨g, 0, none⟩)] #[]) ∧
    w.cell? ⟨q2, 0, none⟩ = some (.slice B l.length cb) ∧ Rd w B cb l ∧ ((k = 2 ∧ m = 73) ∨ (k = 3 ∧ m = 74) ∨ (k = 4 ∧ m = 75)))
def RetAs (w : World) (g : Nat) (s : List UInt8) (e : Ending) (w' : World) : Prop :=
  ∃ fv ok, e = .returned (.tuple #[fv, .bool ok]) ∧ Below w.heap.size w w' ∧
    ((ok = false ∧ (numsR (cutB 32 s).tail = none ∨ askK s = none)) ∨ (ok = true ∧ ∃ l k, numsR (cutB 32 s).tail = some l ∧ askK s = some k ∧ AskF w' g k l fv))
set_option maxRecDepth 100000 in
theorem drive_of (fv : Value) (ql : Nat) (w : World) (hz : fv.oneCell' = true) :
    Calls Tryz.prog 69 #[fv, .pointer (some ⟨ql, 0, none⟩)] w fun e w' => e = .returned (.func (.func 70) #[] #[.pointer (some ⟨w.heap.size, 0, none⟩), .pointer (some ⟨ql, 0, none⟩)]) ∧ w' = w.alloc (.cells #[fv] 143) := by
  go_enter Tryz.func69, Tryz.ntmps69
  go_wp2_with fail
  go_ret
  exact ⟨rfl, rfl⟩
set_option maxRecDepth 100000 in
theorem do_look (g q1 q2 : Nat) (A : Option Addr) (c : Nat) (A2 : Option Addr) (c2 : Nat) (p : PG) (t3 t4 : Value) (B : Option Addr) (l : List Int) (cb : Nat) (w : World) (h1 : w.cell? ⟨q1, 0, none⟩ = some (.func (.func 73) #[.pointer (some ⟨g, 0, none⟩)] #[])) (h2 : w.cell? ⟨q2, 0, none⟩ = some (.slice B l.length cb))
    (hbk : Blk w g 46 #[.slice A p.costs.length c, .slice A2 p.rows.length c2, t3, t4]) (hp : Pg w A c A2 c2 p) (hr : Rd w B cb l) (ht : Tab w) :
    Calls Tryz.prog 70 #[.pointer (some ⟨q1, 0, none⟩), .pointer (some ⟨q2, 0, none⟩)] w (RetS w (lokS p l)) := by
  have HL := Lib.hid (drive_look g A c A2 c2 p t3 t4 B l cb w hbk hp hr ht)
  obtain ⟨S, hS⟩ : ∃ S, lokS p l = S := ⟨_, rfl⟩
  rw [hS] at HL ⊢
  unfold RetS
  clear hS hbk hp hr ht
  go_enter Tryz.func70, Tryz.ntmps70
  go_wp2_with (go_at_call 73; refine HL.out.mono ?_; rintro e w1 ⟨rfl, hb1⟩)
  go_ret
  exact ⟨rfl, hb1⟩
set_option maxRecDepth 100000 in
theorem do_walk (g q1 q2 : Nat) (A : Option Addr) (c : Nat) (A2 : Option Addr) (c2 : Nat) (p : PG) (t3 t4 : Value) (B : Option Addr) (l : List Int) (cb : Nat) (w : World) (h1 : w.cell? ⟨q1, 0, none⟩ = some (.func (.func 74) #[.pointer (some ⟨g, 0, none⟩)] #[])) (h2 : w.cell? ⟨q2, 0, none⟩ = some (.slice B l.length cb))
    (hbk : Blk w g 46 #[.slice A p.costs.length c, .slice A2 p.rows.length c2, t3, t4]) (hp : Pg w A c A2 c2 p) (hr : Rd w B cb l) (ht : Tab w) :
    Calls Tryz.prog 70 #[.pointer (some ⟨q1, 0, none⟩), .pointer (some ⟨q2, 0, none⟩)] w (RetS w (wlkS p l)) := by
  have HL := Lib.hid (drive_walk g A c A2 c2 p t3 t4 B l cb w hbk hp hr ht)
  obtain ⟨S, hS⟩ : ∃ S, wlkS p l = S := ⟨_, rfl⟩
  rw [hS] at HL ⊢
  unfold RetS
  clear hS hbk hp hr ht
  go_enter Tryz.func70, Tryz.ntmps70
  go_wp2_with (go_at_call 74; refine HL.out.mono ?_; rintro e w1 ⟨rfl, hb1⟩)
  go_ret
  exact ⟨rfl, hb1⟩
set_option maxRecDepth 100000 in
theorem do_sweep (g q1 q2 : Nat) (A : Option Addr) (c : Nat) (A2 : Option Addr) (c2 : Nat) (p : PG) (t3 t4 : Value) (B : Option Addr) (l : List Int) (cb : Nat) (w : World) (h1 : w.cell? ⟨q1, 0, none⟩ = some (.func (.func 75) #[.pointer (some ⟨g, 0, none⟩)] #[])) (h2 : w.cell? ⟨q2, 0, none⟩ = some (.slice B l.length cb))
    (hbk : Blk w g 46 #[.slice A p.costs.length c, .slice A2 p.rows.length c2, t3, t4]) (hp : Pg w A c A2 c2 p) (hr : Rd w B cb l) (ht : Tab w) :
    Calls Tryz.prog 70 #[.pointer (some ⟨q1, 0, none⟩), .pointer (some ⟨q2, 0, none⟩)] w (RetS w (swpS p l)) := by
  have HL := Lib.hid (drive_sweep g A c A2 c2 p t3 t4 B l cb w hbk hp hr ht)
  obtain ⟨S, hS⟩ : ∃ S, swpS p l = S := ⟨_, rfl⟩
  rw [hS] at HL ⊢
  unfold RetS
  clear hS hbk hp hr ht
  go_enter Tryz.func70, Tryz.ntmps70
  go_wp2_with (go_at_call 75; refine HL.out.mono ?_; rintro e w1 ⟨rfl, hb1⟩)
  go_ret
  exact ⟨rfl, hb1⟩
set_option maxRecDepth 100000 in
set_option maxHeartbeats 2000000 in
theorem drive_asked (g : Nat) (AW : Option Addr) (cW : Nat) (s : List UInt8) (w : World) (hS : Sd w AW cW (cutB 32 s)) (hs : s.length ≤ 1073741824) (ht : Tab w) (he : Errs w) :
    Calls Tryz.prog 29 #[.pointer (some ⟨g, 0, none⟩), .string (bs s), .slice AW (cutB 32 s).length cW] w (RetAs w g s) := by
  have HS := Lib.hid hS
  have HT := Lib.hid ht
  have HE := Lib.hid he
  clear hS ht he
  obtain ⟨m, hm⟩ : ∃ m, (cutB 32 s).length = m + 1 := ⟨(cutB 32 s).length - 1, by have := List.length_pos_iff.2 (cutB_ne 32 s); omega⟩
  have hcw := cut_small (c := 32) (s := s)
  have HPW := Lib.hid (fun (x : List UInt8) (hx : x ∈ cutB 32 s) => cut_parts x hx)
  rw [hm]
  unfold RetAs
  go_enter Tryz.func29, Tryz.ntmps29
  go_upto_region 1 with fail
  have BW := Lib.hid (Blk.mk' w 44 #[.pointer (some ⟨g, 0, none⟩)])
  have HW := Lib.hid ((Below.refl w.heap.size w).alloc (Nat.le_refl _) (.cells #[.pointer (some ⟨g, 0, none⟩)] 44))
  obtain ⟨W, hWe⟩ : ∃ W, w.alloc (.cells #[.pointer (some ⟨g, 0, none⟩)] 44) = W := ⟨_, rfl⟩
  rw [hWe] at BW HW ⊢
  clear hWe
  have zW := HW.out.size
  have HSW := Lib.hid (HS.out.below HW.out)
  obtain ⟨aw, e1, hw0⟩ := HSW.out.at_ (k := 0) (by omega)
  subst e1
  obtain ⟨hSle, hScap, _⟩ := HSW.out
  rw [hm] at hSle
  obtain ⟨AT, cT, hrun, hST⟩ := HSW.out.from_run hm 1 (by omega)
  have hrun1 : ∀ W, (Instr.slice 22 (.slice (some aw) (m + 1) cW) (some (.int .i64 1)) none none).run Tryz.prog W = .ok (.slice AT m cT) W := hrun
  have hdl : ((cutB 32 s).drop 1).length = m := by rw [List.length_drop, hm]; rfl
  have HNB := Lib.hid (drive_numbers AT cT ((cutB 32 s).drop 1) W hST (by omega) (fun x hx => by have := HPW.out x (List.mem_of_mem_drop hx); omega) (HT.out.below HW.out) (HE.out.below HW.out))
  rw [hdl] at HNB
  have hhd : (cutB 32 s).headD [] = (cutB 32 s)[0]'(by omega) := by
    obtain ⟨x, y, hc⟩ := List.exists_cons_of_ne_nil (cutB_ne 32 s)
    simp only [hc]; rfl
  have hK : askK s = if s = wSolve then some 0 else if s = wShow then some 1 else if (cutB 32 s)[0]'(by omega) = wLook then some 2 else if (cutB 32 s)[0]'(by omega) = wWalk then some 3 else if (cutB 32 s)[0]'(by omega) = wSweep then some 4 else none := by
    unfold askK; rw [hhd]
  have hw0' : W.cell? aw = some (.string (bs ((cutB 32 s)[0]'(by omega)))) := hw0
  have s1 : ((bs s).toList == [115, 111, 108, 118, 101]) = decide (s = wSolve) := by rw [bs_list]; exact Bool.beq_eq_decide_eq _ _
  have s2 : ((bs s).toList == [115, 104, 111, 119]) = decide (s = wShow) := by rw [bs_list]; exact Bool.beq_eq_decide_eq _ _
  obtain ⟨hd0, hh0⟩ : ∃ h, (cutB 32 s)[0]'(by omega) = h := ⟨_, rfl⟩
  rw [hh0] at hK hw0'
  have s3 : ((bs hd0).toList == [108, 111, 111, 107]) = decide (hd0 = wLook) := by rw [bs_list]; exact Bool.beq_eq_decide_eq _ _
  have s4 : ((bs hd0).toList == [119, 97, 108, 107]) = decide (hd0 = wWalk) := by rw [bs_list]; exact Bool.beq_eq_decide_eq _ _
  have s5 : ((bs hd0).toList == [115, 119, 101, 101, 112]) = decide (hd0 = wSweep) := by rw [bs_list]; exact Bool.beq_eq_decide_eq _ _
  have HK := Lib.hid hK
  clear hrun hw0 hST hdl hhd hK hh0
  have q0 : W.cell? ⟨w.heap.size, 0, none⟩ = some (.pointer (some ⟨g, 0, none⟩)) := BW.out.cell 0
  cases hnv : numsR ((cutB 32 s).drop 1) with
  | none =>
    have HNV := Lib.hid hnv
    clear hnv
    go_wp2_with (go_at_call 68; refine HNB.out.mono ?_; intro e w3 hret; obtain ⟨hb3, rfl⟩ := hret.none_ HNV.out; have HB3 := Lib.hid hb3; clear hb3 hret)
    refine bodyPost_ret (v := .tuple #[.nilFunc, .bool false]) ?_ ?_ ?_
    · simp [results, Tryz.results29, go_sem]
    · rfl
    exact ⟨_, _, rfl, (HW.out.trans (HB3.out.mono zW)).alloc (by have := HB3.out.size; omega) _, .inl ⟨rfl, .inl (by rw [← List.drop_one]; exact HNV.out)⟩⟩
  | some l =>
    have HNV := Lib.hid hnv
    clear hnv
    go_upto_region 2 with (go_at_call 68; refine HNB.out.mono ?_; intro e w3 hret; obtain ⟨hb3, A3, c3, rfl, hr3, _⟩ := hret.some_ HNV.out; have HB3 := Lib.hid hb3; have HR3 := Lib.hid hr3; clear hb3 hr3 hret)
    have z3 := HB3.out.size
    have BV := Lib.hid (Blk.mk' w3 25 #[.slice A3 l.length c3])
    have HA3 := Lib.hid ((Below.refl w3.heap.size w3).alloc (Nat.le_refl _) (.cells #[.slice A3 l.length c3] 25))
    obtain ⟨V, hVe⟩ : ∃ V, w3.alloc (.cells #[.slice A3 l.length c3] 25) = V := ⟨_, rfl⟩
    obtain ⟨ql, hql⟩ : ∃ ql, w3.heap.size = ql := ⟨_, rfl⟩
    rw [hVe] at BV HA3 ⊢
    have HWV := Lib.hid (HB3.out.trans (HA3.out.mono z3))
    have HRV := Lib.hid (HR3.out.below HA3.out)
    rw [hql] at BV ⊢
    clear hVe hql HR3
    have HV := Lib.hid (HW.out.trans (HWV.out.mono zW))
    have q1 : V.cell? ⟨ql, 0, none⟩ = some (.slice A3 l.length c3) := BV.out.cell 0
    have q2 : V.cell? ⟨w.heap.size, 0, none⟩ = some (.pointer (some ⟨g, 0, none⟩)) := (BW.out.next HWV.out).cell 0
    have q3 : V.cell? aw = some (.string (bs hd0)) := (HWV.out.cell (World.block_lt_of_cell? _ _ hw0')).trans hw0'
    clear q0 hw0'
    by_cases h1 : s = wSolve
    · have HK1 := Lib.hid (show askK s = some 0 by rw [HK.out, if_pos h1])
      have d1 : decide (s = wSolve) = true := by simpa using h1
      clear h1 HK
      go_wp2_with fail
      refine bodyPost_ret (v := .tuple #[.func (.func 71) #[.pointer (some ⟨g, 0, none⟩)] #[], .bool true]) ?_ ?_ ?_
      · simp [results, Tryz.results29, go_sem]
      · rfl
      exact ⟨_, _, rfl, HV.out, .inr ⟨rfl, l, 0, by rw [← List.drop_one]; exact HNV.out, HK1.out, .inl ⟨rfl, rfl⟩⟩⟩
    · have d1 : decide (s = wSolve) = false := by simpa using h1
      rw [if_neg h1] at HK
      clear h1
      by_cases h2 : s = wShow
      · have HK1 := Lib.hid (show askK s = some 1 by rw [HK.out, if_pos h2])
        have d2 : decide (s = wShow) = true := by simpa using h2
        clear h2 HK
        go_wp2_with fail
        refine bodyPost_ret (v := .tuple #[.func (.func 72) #[] #[.pointer (some ⟨w.heap.size, 0, none⟩)], .bool true]) ?_ ?_ ?_
        · simp [results, Tryz.results29, go_sem]
        · rfl
        exact ⟨_, _, rfl, HV.out, .inr ⟨rfl, l, 1, by rw [← List.drop_one]; exact HNV.out, HK1.out, .inr (.inl ⟨rfl, _, rfl, q2⟩)⟩⟩
      · have d2 : decide (s = wShow) = false := by simpa using h2
        rw [if_neg h2] at HK
        clear h2
        by_cases h3 : hd0 = wLook
        · have HK1 := Lib.hid (show askK s = some 2 by rw [HK.out, if_pos h3])
          have d3 : decide (hd0 = wLook) = true := by simpa using h3
          clear h3 HK
          have HOF := Lib.hid (drive_of (.func (.func 73) #[.pointer (some ⟨g, 0, none⟩)] #[]) ql V rfl)
          have HCN := Lib.hid ((Below.refl V.heap.size V).alloc (Nat.le_refl _) (.cells #[.func (.func 73) #[.pointer (some ⟨g, 0, none⟩)] #[]] 143))
          go_wp2_with (go_at_call 69; refine HOF.out.mono ?_; rintro e w4 ⟨rfl, rfl⟩)
          refine bodyPost_ret (v := .tuple #[.func (.func 70) #[] #[.pointer (some ⟨V.heap.size, 0, none⟩), .pointer (some ⟨ql, 0, none⟩)], .bool true]) ?_ ?_ ?_
          · simp [results, Tryz.results29, go_sem]
          · rfl
          refine ⟨_, _, rfl, HV.out.trans (HCN.out.mono HV.out.size), .inr ⟨rfl, l, 2, by rw [← List.drop_one]; exact HNV.out, HK1.out, .inr (.inr ⟨V.heap.size, ql, A3, c3, 73, rfl, cell_new1 _ _ _, (HCN.out.cell (World.block_lt_of_cell? _ _ q1)).trans q1, HRV.out.below HCN.out, by simp⟩)⟩⟩
        · have d3 : decide (hd0 = wLook) = false := by simpa using h3
          rw [if_neg h3] at HK
          clear h3
          by_cases h4 : hd0 = wWalk
          · have HK1 := Lib.hid (show askK s = some 3 by rw [HK.out, if_pos h4])
            have d4 : decide (hd0 = wWalk) = true := by simpa using h4
            clear h4 HK
            have HOF := Lib.hid (drive_of (.func (.func 74) #[.pointer (some ⟨g, 0, none⟩)] #[]) ql V rfl)
            have HCN := Lib.hid ((Below.refl V.heap.size V).alloc (Nat.le_refl _) (.cells #[.func (.func 74) #[.pointer (some ⟨g, 0, none⟩)] #[]] 143))
            go_wp2_with (go_at_call 69; refine HOF.out.mono ?_; rintro e w4 ⟨rfl, rfl⟩)
            refine bodyPost_ret (v := .tuple #[.func (.func 70) #[] #[.pointer (some ⟨V.heap.size, 0, none⟩), .pointer (some ⟨ql, 0, none⟩)], .bool true]) ?_ ?_ ?_
            · simp [results, Tryz.results29, go_sem]
            · rfl
            refine ⟨_, _, rfl, HV.out.trans (HCN.out.mono HV.out.size), .inr ⟨rfl, l, 3, by rw [← List.drop_one]; exact HNV.out, HK1.out, .inr (.inr ⟨V.heap.size, ql, A3, c3, 74, rfl, cell_new1 _ _ _, (HCN.out.cell (World.block_lt_of_cell? _ _ q1)).trans q1, HRV.out.below HCN.out, by simp⟩)⟩⟩
          · have d4 : decide (hd0 = wWalk) = false := by simpa using h4
            rw [if_neg h4] at HK
            clear h4
            by_cases h5 : hd0 = wSweep
            · have HK1 := Lib.hid (show askK s = some 4 by rw [HK.out, if_pos h5])
              have d5 : decide (hd0 = wSweep) = true := by simpa using h5
              clear h5 HK
              have HOF := Lib.hid (drive_of (.func (.func 75) #[.pointer (some ⟨g, 0, none⟩)] #[]) ql V rfl)
              have HCN := Lib.hid ((Below.refl V.heap.size V).alloc (Nat.le_refl _) (.cells #[.func (.func 75) #[.pointer (some ⟨g, 0, none⟩)] #[]] 143))
              go_wp2_with (go_at_call 69; refine HOF.out.mono ?_; rintro e w4 ⟨rfl, rfl⟩)
              refine bodyPost_ret (v := .tuple #[.func (.func 70) #[] #[.pointer (some ⟨V.heap.size, 0, none⟩), .pointer (some ⟨ql, 0, none⟩)], .bool true]) ?_ ?_ ?_
              · simp [results, Tryz.results29, go_sem]
              · rfl
              refine ⟨_, _, rfl, HV.out.trans (HCN.out.mono HV.out.size), .inr ⟨rfl, l, 4, by rw [← List.drop_one]; exact HNV.out, HK1.out, .inr (.inr ⟨V.heap.size, ql, A3, c3, 75, rfl, cell_new1 _ _ _, (HCN.out.cell (World.block_lt_of_cell? _ _ q1)).trans q1, HRV.out.below HCN.out, by simp⟩)⟩⟩
            · have HK1 := Lib.hid (show askK s = none by rw [HK.out, if_neg h5])
              have d5 : decide (hd0 = wSweep) = false := by simpa using h5
              clear h5 HK
              go_wp2_with fail
              refine bodyPost_ret (v := .tuple #[.nilFunc, .bool false]) ?_ ?_ ?_
              · simp [results, Tryz.results29, go_sem]
              · rfl
              exact ⟨_, _, rfl, HV.out, .inl ⟨rfl, .inr HK1.out⟩⟩
end Go.Proofs.YtjcdkbalhleeeaaGreatDoor

namespace Go.Proofs.YtjcdkbalhleeeaaGreatDoor
open Go.RowKit

theorem Rd.sameW {w w' : World} {A : Option Addr} {c : Nat} {l : List Int} (h : Rd w A c l) (hk : ∀ ad, A = some ad → ad.block < w.heap.size → w'.heap[ad.block]? = w.heap[ad.block]?) : Rd w' A c l :=
  ⟨h.le, h.cap, h.small, fun hl => by
    obtain ⟨ad, e, hc⟩ := h.cells hl
    have h0 := World.block_lt_of_cell? _ _ (hc 0 _ (List.getElem?_eq_getElem hl))
    rw [block_add] at h0
    exact ⟨ad, e, fun j u hu => (World.cell?_of_block (by rw [block_add]; exact hk ad e h0)).trans (hc j u hu)⟩⟩
/-- A row's slice's address and room, and the row. -/
abbrev RE := Option Addr × Nat × (List Int × Int)
def reCells (es : List RE) : List Value := es.flatMap fun e => [.slice e.1 e.2.2.1.length e.2.1, .int .i64 e.2.2.2]
theorem reCells_snoc (es : List RE) (e : RE) : reCells (es ++ [e]) = reCells es ++ [.slice e.1 e.2.2.1.length e.2.1, .int .i64 e.2.2.2] := by simp [reCells]
theorem reCells_at : ∀ (es : List RE) {i : Nat} (h : i < es.length), (reCells es)[i * 2]? = some (.slice es[i].1 es[i].2.2.1.length es[i].2.1) ∧ (reCells es)[i * 2 + 1]? = some (.int .i64 es[i].2.2.2)
  | [], i, h => by simp at h
  | e :: es, 0, h => by simp [reCells]
  | e :: es, i + 1, h => by
    have := reCells_at es (i := i) (by simpa using h)
    have e1 : (i + 1) * 2 = i * 2 + 2 := by omega
    rw [e1]
    simp only [reCells, List.flatMap_cons] at this ⊢
    rw [List.getElem?_append_right (by simp), List.getElem?_append_right (by simp)]
    simpa using this
/-- Rows that the call has made. -/
structure RwB (w : World) (base : Nat) (v : Value) (es : List RE) : Prop where
  own : w.ownsRow base 91 2 v es.length (reCells es)
  rd : ∀ e ∈ es, Rd w e.1 e.2.1 e.2.2.1
  ne : ∀ e ∈ es, ∀ ad, e.1 = some ad → v.ownBlock ≠ some ad.block
  lt : ∀ e ∈ es, ∀ ad, e.1 = some ad → ad.block < w.heap.size
  ge : ∀ e ∈ es, ∀ ad, e.1 = some ad → base ≤ ad.block
section
variable {w w' : World} {base : Nat} {v : Value} {es : List RE}
theorem RwB.nil (w : World) (base : Nat) : RwB w base (.slice none 0 0) [] := ⟨World.ownsRow_nil _ _ _ _, by simp, by simp, by simp, by simp⟩
theorem RwB.below (h : RwB w base v es) (hb : Below w.heap.size w w') : RwB w' base v es :=
  ⟨own_below h.own hb, fun e he => (h.rd e he).below hb, h.ne, fun e he ad ea => Nat.lt_of_lt_of_le (h.lt e he ad ea) hb.size, h.ge⟩
/-- Another cell's turn. -/
theorem RwB.same (h : RwB w base v es) (hs : ∀ b, (v.ownBlock = some b ∨ ∃ e ∈ es, ∃ ad, e.1 = some ad ∧ ad.block = b) → w'.heap[b]? = w.heap[b]?) (hz : w.heap.size ≤ w'.heap.size) : RwB w' base v es := by
  refine ⟨?_, fun e he => (h.rd e he).sameW fun ad ea _ => hs _ (Or.inr ⟨e, he, ad, ea, rfl⟩), h.ne, fun e he ad ea => Nat.lt_of_lt_of_le (h.lt e he ad ea) hz, h.ge⟩
  rcases h.own with ⟨h1, h2⟩
  refine ⟨h1, ?_⟩
  rcases h2 with h2 | ⟨g, cap, cur, e1, e2, e3, e4⟩
  · exact Or.inl h2
  · exact Or.inr ⟨g, cap, cur, e1, e2, (hs g (Or.inl (by rw [e1]; rfl))).trans e3, e4⟩
/-- One more. -/
theorem RwB.push (h : RwB w base v es) {A : Option Addr} {c o cap : Nat} {l : List Int} {m : Int} (hr : Rd w A c l) (hn : ∀ ad, A = some ad → v.ownBlock ≠ some ad.block) (hlt : ∀ ad, A = some ad → ad.block < w.heap.size) (hge : ∀ ad, A = some ad → base ≤ ad.block)
    (hown : w'.ownsRow base 91 2 (.slice (some ⟨o, 0, none⟩) (es.length + 1) cap) (es.length + 1) (reCells es ++ [.slice A l.length c, .int .i64 m]))
    (hg : w.grownBy w' v.ownBlock) (hat : v.ownBlock = some o ∨ o = w.heap.size) :
    RwB w' base (.slice (some ⟨o, 0, none⟩) (es.length + 1) cap) (es ++ [(A, c, (l, m))]) := by
  have hz := hg.size
  have key : ∀ (A' : Option Addr) (c' : Nat) (l' : List Int), Rd w A' c' l' → (∀ ad, A' = some ad → v.ownBlock ≠ some ad.block) → (∀ ad, A' = some ad → ad.block < w.heap.size) →
      Rd w' A' c' l' ∧ (∀ ad, A' = some ad → (Value.slice (some ⟨o, 0, none⟩) (es.length + 1) cap).ownBlock ≠ some ad.block) ∧ (∀ ad, A' = some ad → ad.block < w'.heap.size) := by
    intro A' c' l' h1 h2 h3
    refine ⟨h1.sameW fun ad e hl => hg.block _ hl fun q => h2 ad e q.symm, fun ad e q => ?_, fun ad e => Nat.lt_of_lt_of_le (h3 ad e) hz⟩
    have q' : o = ad.block := by simpa [Value.ownBlock] using q
    rcases hat with hat | hat
    · exact h2 ad e (by rw [hat, q'])
    · have := h3 ad e; omega
  have hall : ∀ e ∈ es ++ [(A, c, (l, m))], Rd w e.1 e.2.1 e.2.2.1 ∧ (∀ ad, e.1 = some ad → v.ownBlock ≠ some ad.block) ∧ (∀ ad, e.1 = some ad → ad.block < w.heap.size) := by
    intro e he
    rcases List.mem_append.1 he with he | he
    · exact ⟨h.rd e he, h.ne e he, h.lt e he⟩
    · simp at he; subst he; exact ⟨hr, hn, hlt⟩
  refine ⟨by rw [reCells_snoc, List.length_append]; exact hown, fun e he => ?_, fun e he => ?_, fun e he => ?_, fun e he => ?_⟩
  · obtain ⟨a, b, d⟩ := hall e he; exact (key _ _ _ a b d).1
  · obtain ⟨a, b, d⟩ := hall e he; exact (key _ _ _ a b d).2.1
  · obtain ⟨a, b, d⟩ := hall e he; exact (key _ _ _ a b d).2.2
  · rcases List.mem_append.1 he with he | he
    · exact h.ge e he
    · simp at he; subst he; exact hge
/-- They read as rows. -/
theorem RwB.read (h : RwB w base v es) (hk : es.length ≤ 4398046511104) : ∃ A c, v = .slice A es.length c ∧ Rw w A c (es.map (·.2.2)) := by
  rcases h.own.2 with ⟨rfl, h0⟩ | ⟨g, cap, cur, rfl, hb, hg, h1, h2, _⟩
  · have : es = [] := List.eq_nil_of_length_eq_zero h0
    subst this
    exact ⟨none, 0, rfl, ⟨by simp, by omega, by simp, fun h => by simp at h⟩⟩
  · refine ⟨_, cap, rfl, by rw [List.length_map]; exact h1, by unfold maxLen at h2; omega, by rw [List.length_map]; omega, fun _ => ⟨_, rfl, fun j hj => ?_⟩⟩
    have hj' : j < es.length := by simpa using hj
    obtain ⟨c1, c2⟩ := reCells_at es hj'
    have e1 : ∀ q, (⟨g, 0, none⟩ : Addr).add q = ⟨g, q, none⟩ := fun q => by unfold Addr.add; split <;> simp_all
    have d1 := h.own.cells (g := g) rfl (j * 2) _ c1
    have d2 := h.own.cells (g := g) rfl (j * 2 + 1) _ c2
    rw [e1] at d1 d2
    rw [e1, List.getElem_map]
    exact ⟨_, _, d1, d2, h.rd _ (List.getElem_mem hj')⟩
end
theorem step_appW {ops : Array Oper} {K : Act → World → Prop} {E' : Prop} {o : Oper} {a : Act} {w : World} {Q : Exit → Act → World → Prop} (hgd : o.guard = none) (s x : Operand)
    (ho : o.op = .call { callee := .builtin .append, args := #[s, x], argTypes := #[26, 26] })
    (base : Nat) (v : Value) (n : Nat) (xs : List Value) (u1 u2 : Value) (hs : a.eval s = v) (hown : w.ownsRow base 91 2 v n xs)
    (b c : Nat) (hx : a.eval x = .slice (some ⟨b, 0, none⟩) 1 c) (hb : Blk w b 91 #[u1, u2]) (h1 : u1.oneCell' = true) (h2 : u2.oneCell' = true)
    (hn : n ≤ 2199023255552) (hbase : base ≤ w.heap.size)
    (h : ∀ g cap w', w'.ownsRow base 91 2 (.slice (some ⟨g, 0, none⟩) (n + 1) cap) (n + 1) (xs ++ [u1, u2]) → w.grownBy w' v.ownBlock → (v.ownBlock = some g ∨ g = w.heap.size) → g < w'.heap.size → K (a.put o.dst (.slice (some ⟨g, 0, none⟩) (n + 1) cap)) w') :
    if Region.wanted o (yielded ops a.tmps) = true then Oper.wp Tryz.prog o a w K Q else E' := by
  obtain ⟨i, hi, hz0, hz1, hz2⟩ := info_parts inf_rowT
  exact step_append_lies w hgd s x 26 ho base 91 i _ 2 32 und_rowsT hi hz0 hz1 hz2 rfl (by omega) v n xs hs hown ⟨b, 0, none⟩ 1 c [u1, u2] hx rfl (news2 hb) (by simp [h1, h2]) (by omega) (by unfold maxLen; omega) (by omega) hbase _ rfl h
/-- A program under way, in the box b: what it has lies at base and beyond. -/
structure PgW (w : World) (b base : Nat) (A : Option Addr) (c : Nat) (v : Value) (es : List RE) (q : PG) : Prop where
  blk : Blk w b 28 #[.slice A q.costs.length c, v]
  below : b < base
  rd : Rd w A c q.costs
  ge : ∀ ad, A = some ad → base ≤ ad.block
  lt : ∀ ad, A = some ad → ad.block < w.heap.size
  ne : ∀ ad, A = some ad → v.ownBlock ≠ some ad.block
  rows : RwB w base v es
  eq : es.map (·.2.2) = q.rows
section
variable {w w' : World} {b base c : Nat} {A : Option Addr} {v : Value} {es : List RE} {q : PG}
theorem PgW.start (h : Blk w b 28 #[.slice none 0 0, .slice none 0 0]) (hb : b < base) : PgW w b base none 0 (.slice none 0 0) [] ⟨[], []⟩ :=
  ⟨h, hb, Rd.nil w, by simp, by simp, by simp, RwB.nil w base, rfl⟩
theorem PgW.next (h : PgW w b base A c v es q) (hb : Below w.heap.size w w') : PgW w' b base A c v es q :=
  ⟨h.blk.next hb, h.below, h.rd.below hb, h.ge, fun ad e => Nat.lt_of_lt_of_le (h.lt ad e) hb.size, h.ne, h.rows.below hb, h.eq⟩
/-- Other costs, in new memory. -/
theorem PgW.costs {w0 : World} (h : PgW w0 b base A c v es q) (hb : Below w0.heap.size w0 w) (hz : base ≤ w0.heap.size) {A' : Option Addr} {c' : Nat} {l : List Int} (hr : Rd w A' c' l) (hA : ∀ ad, A' = some ad → w0.heap.size ≤ ad.block ∧ ad.block < w.heap.size) :
    PgW (w.setCell ⟨b, 0, none⟩ (.slice A' l.length c')) b base A' c' v es ⟨l, q.rows⟩ := by
  have h1 := h.next hb
  have hs : ∀ g, base ≤ g → (w.setCell ⟨b, 0, none⟩ (.slice A' l.length c')).heap[g]? = w.heap[g]? := fun g hg => Below.heap_setCell w _ _ g (by have := h.below; show g ≠ b; omega)
  have hvb : ∀ g, v.ownBlock = some g → base ≤ g ∧ g < w0.heap.size := fun g e => h.rows.own.lt g e
  refine ⟨h1.blk.set0 0 _, h.below, hr.sameW fun ad e hl => hs _ (by have := hA ad e; omega), fun ad e => by have := hA ad e; omega, fun ad e => by simpa using (hA ad e).2, fun ad e q' => ?_, h1.rows.same ?_ (by simp), h.eq⟩
  · have := hvb _ q'; have := hA ad e; omega
  · rintro g (e | ⟨x, hx, ad, e, rfl⟩)
    · exact hs g (hvb g e).1
    · exact hs _ (h.rows.ge x hx ad e)
/-- One row more, whose slice is new memory. -/
theorem PgW.row {w0 w5 : World} (h : PgW w0 b base A c v es q) (hb : Below w0.heap.size w0 w) (hz : base ≤ w0.heap.size) {A' : Option Addr} {c' o cap : Nat} {l : List Int} {m : Int} (hr : Rd w A' c' l) (hA : ∀ ad, A' = some ad → w0.heap.size ≤ ad.block ∧ ad.block < w.heap.size)
    (hown : w5.ownsRow base 91 2 (.slice (some ⟨o, 0, none⟩) (es.length + 1) cap) (es.length + 1) (reCells es ++ [.slice A' l.length c', .int .i64 m]))
    (hg : w.grownBy w5 v.ownBlock) (hat : v.ownBlock = some o ∨ o = w.heap.size) :
    PgW (w5.setCell ⟨b, 1, none⟩ (.slice (some ⟨o, 0, none⟩) (es.length + 1) cap)) b base A c (.slice (some ⟨o, 0, none⟩) (es.length + 1) cap) (es ++ [(A', c', (l, m))]) ⟨q.costs, q.rows ++ [(l, m)]⟩ := by
  have h1 := h.next hb
  have hvb : ∀ g, v.ownBlock = some g → base ≤ g ∧ g < w0.heap.size := fun g e => h.rows.own.lt g e
  have hbz := hb.size
  have hp := h1.rows.push (w' := w5) (m := m) hr (fun ad e q' => by have := hvb _ q'; have := hA ad e; omega) (fun ad e => (hA ad e).2) (fun ad e => by have := hA ad e; omega) hown hg hat
  have hs : ∀ g, base ≤ g → (w5.setCell ⟨b, 1, none⟩ (.slice (some ⟨o, 0, none⟩) (es.length + 1) cap)).heap[g]? = w5.heap[g]? := fun g hg => Below.heap_setCell w5 _ _ g (by have := h.below; show g ≠ b; omega)
  have hkeep : ∀ ad, A = some ad → w5.heap[ad.block]? = w.heap[ad.block]? := fun ad e => hg.block _ (h1.lt ad e) fun q' => h1.ne ad e q'.symm
  have hbl : Blk w5 b 28 #[.slice A q.costs.length c, v] := (hg.block b (h1.blk.lt) (fun q' => by have := hvb _ q'.symm; have := h.below; omega)).trans h1.blk
  have hz5 := hg.size
  refine ⟨hbl.set0 1 _, h.below, (h1.rd.sameW fun ad e _ => hkeep ad e).sameW fun ad e _ => hs _ (h.ge ad e), h.ge, fun ad e => by have := h1.lt ad e; simp; omega, fun ad e q' => ?_, hp.same ?_ (by simp), by rw [List.map_append, h.eq]; rfl⟩
  · have q2 : o = ad.block := by simpa [Value.ownBlock] using q'
    rcases hat with hat | hat
    · exact h1.ne ad e (by rw [hat, q2])
    · have := h1.lt ad e; omega
  · rintro g (e | ⟨x, hx, ad, e, rfl⟩)
    · exact hs g (hp.own.lt g e).1
    · exact hs _ (hp.ge x hx ad e)
/-- Another box's turn. -/
theorem PgW.far (h : PgW w b base A c v es q) (p : Addr) (u : Value) (hp : p.block < base) (hne : p.block ≠ b) : PgW (w.setCell p u) b base A c v es q := by
  have hs : ∀ g, base ≤ g → (w.setCell p u).heap[g]? = w.heap[g]? := fun g hg => Below.heap_setCell w _ _ g (by omega)
  refine ⟨h.blk.far _ (fun e => hne e.symm), h.below, h.rd.sameW fun ad e _ => hs _ (h.ge ad e), h.ge, fun ad e => by simpa using h.lt ad e, h.ne, h.rows.same ?_ (by simp), h.eq⟩
  rintro g (e | ⟨x, hx, ad, e, rfl⟩)
  · exact hs g (h.rows.own.lt g e).1
  · exact hs _ (h.rows.ge x hx ad e)
theorem PgW.read (h : PgW w b base A c v es q) (hk : es.length ≤ 4398046511104) : ∃ A2 c2, v = .slice A2 q.rows.length c2 ∧ Pg w A c A2 c2 q := by
  obtain ⟨A2, c2, rfl, hr⟩ := h.rows.read hk
  rw [h.eq] at hr
  refine ⟨A2, c2, ?_, h.rd, hr⟩
  rw [← h.eq, List.length_map]
end
end Go.Proofs.YtjcdkbalhleeeaaGreatDoor
