/-
  Contracts of functions and plain laws that later parts of the proof use. The conditions stand in each theorem.
-/
import Derived.Test.YtjcdkbalhleeeaaGreatDoorG27
import Derived.Shelf.Strings.SplitShaped
import Derived.Shelf.Strconv.ErrVarParseInt
import Derived.Test.YtjcdkbalhleeeaaGreatDoorG06
namespace Go.Proofs
open Go.Shelf
def Tryz.lays146_ren : Go.Shelf.Ren := ⟨fun | 146 => 12 | 221 => 26 | 268 => 63 | 138 => 64 | 143 => 65 | 195 => 103 | 197 => 104 | 218 => 105 | 219 => 106 | 260 => 138 | 217 => 139 | 225 => 140 | 224 => 141 | 267 => 142 | 266 => 170 | 314 => 171 | n => n, fun | 9 => 9 | 31 => 22 | 3 => 3 | 4 => 4 | 0 => 0 | 105 => 169 | 21 => 21 | 5 => 5 | 46 => 166 | 119 => 227 | 139 => 230 | 138 => 229 | 146 => 231 | 51 => 197 | n => n, fun | 1 => 0 | 3 => 2 | 4 => 3 | n => n⟩
theorem Tryz.lays146 : LaysM.n146 Tryz.prog Tryz.lays146_ren := {
 mixed := by kernel_rfl
 f138 := Tryz.func64.trans (congrArg some (by kernel_rfl))
 f143 := Tryz.func65.trans (congrArg some (by kernel_rfl))
 f146 := Tryz.func12.trans (congrArg some (by kernel_rfl))
 f195 := Tryz.func103.trans (congrArg some (by kernel_rfl))
 f197 := Tryz.func104.trans (congrArg some (by kernel_rfl))
 f217 := Tryz.func139.trans (congrArg some (by kernel_rfl))
 f218 := Tryz.func105.trans (congrArg some (by kernel_rfl))
 f219 := Tryz.func106.trans (congrArg some (by kernel_rfl))
 f221 := Tryz.func26.trans (congrArg some (by kernel_rfl))
 f224 := Tryz.func141.trans (congrArg some (by kernel_rfl))
 f225 := Tryz.func140.trans (congrArg some (by kernel_rfl))
 f260 := Tryz.func138.trans (congrArg some (by kernel_rfl))
 f266 := Tryz.func170.trans (congrArg some (by kernel_rfl))
 f267 := Tryz.func142.trans (congrArg some (by kernel_rfl))
 f268 := Tryz.func63.trans (congrArg some (by kernel_rfl))
 f314 := Tryz.func171.trans (congrArg some (by kernel_rfl))
 t0 := Tryz.underlying0
 a0 := Tryz.isAgg0
 z0 := Tryz.sizeOf0
 v0 := Tryz.zeroValue0
 t3 := Tryz.underlying3
 a3 := Tryz.isAgg3
 z3 := Tryz.sizeOf3
 v3 := Tryz.zeroValue3
 t4 := Tryz.underlying4
 a4 := Tryz.isAgg4
 z4 := Tryz.sizeOf4
 v4 := Tryz.zeroValue4
 t5 := Tryz.underlying5
 a5 := Tryz.isAgg5
 z5 := Tryz.sizeOf5
 v5 := Tryz.zeroValue5
 t9 := Tryz.underlying9
 a9 := Tryz.isAgg9
 z9 := Tryz.sizeOf9
 v9 := Tryz.zeroValue9
 t21 := Tryz.underlying21
 a21 := Tryz.isAgg21
 z21 := Tryz.sizeOf21
 v21 := Tryz.zeroValue21
 t31 := Tryz.underlying22
 a31 := Tryz.isAgg22
 z31 := Tryz.sizeOf22
 v31 := Tryz.zeroValue22
 t46 := Tryz.underlying166
 a46 := Tryz.isAgg166
 z46 := Tryz.sizeOf166
 v46 := Tryz.zeroValue166
 t51 := Tryz.underlying197
 a51 := Tryz.isAgg197
 z51 := Tryz.sizeOf197
 v51 := Tryz.zeroValue197
 t105 := Tryz.underlying169
 a105 := Tryz.isAgg169
 z105 := Tryz.sizeOf169
 v105 := Tryz.zeroValue169
 t119 := Tryz.underlying227
 a119 := Tryz.isAgg227
 z119 := Tryz.sizeOf227
 t138 := Tryz.underlying229
 a138 := Tryz.isAgg229
 z138 := Tryz.sizeOf229
 v138 := Tryz.zeroValue229
 t139 := Tryz.underlying230
 a139 := Tryz.isAgg230
 z139 := Tryz.sizeOf230
 v139 := Tryz.zeroValue230
 t146 := Tryz.underlying231
 a146 := Tryz.isAgg231
 z146 := Tryz.sizeOf231
 v146 := Tryz.zeroValue231
 g1 := by kernel_rfl
 g3 := by kernel_rfl
 g4 := by kernel_rfl
 i0 := by kernel_rfl
 i3 := by kernel_rfl
 i4 := by kernel_rfl
 i5 := by kernel_rfl
 i9 := by kernel_rfl
 i21 := by kernel_rfl
 i31 := by kernel_rfl
 i46 := by kernel_rfl
 i51 := by kernel_rfl
 i105 := by kernel_rfl
 i138 := by kernel_rfl
 i139 := by kernel_rfl
 i146 := by kernel_rfl
 m1 := by kernel_rfl
 s1_3 := fun w h => Go.Proofs.cell_of_shapedOpen_int (zero := #[.int .i64 0]) (t := 3) h (of_decide_eq_true (by kernel_rfl)) (by kernel_rfl) rfl (by kernel_rfl) (by kernel_rfl) Tryz.underlying3
 m3 := by kernel_rfl
 m4 := by kernel_rfl
 }
def Tryz.lays174_ren : Go.Shelf.Ren := ⟨fun | 174 => 76 | 247 => 111 | 245 => 112 | 287 => 143 | 279 => 144 | 280 => 145 | 281 => 146 | 282 => 147 | 321 => 172 | 322 => 173 | 316 => 174 | 171 => 67 | 205 => 175 | 243 => 108 | 246 => 90 | 283 => 117 | 284 => 118 | 285 => 119 | 286 => 120 | 129 => 137 | 317 => 149 | 318 => 150 | 319 => 151 | 320 => 152 | 337 => 176 | 338 => 177 | n => n, fun | 9 => 9 | 3 => 3 | 2 => 2 | 75 => 107 | 85 => 145 | 4 => 4 | 167 => 199 | 5 => 5 | 53 => 178 | 175 => 200 | 46 => 166 | 168 => 202 | 37 => 87 | 0 => 0 | 210 => 235 | 21 => 21 | 127 => 154 | 145 => 244 | 143 => 242 | 171 => 177 | 173 => 181 | 212 => 207 | 51 => 197 | 20 => 20 | 213 => 208 | 232 => 245 | 233 => 246 | 80 => 84 | n => n, fun | 15 => 4 | 16 => 5 | 17 => 1 | 18 => 6 | 19 => 7 | n => n⟩
theorem Tryz.lays174 : LaysC.n174 Tryz.prog Tryz.lays174_ren := {
 mixed := by kernel_rfl
 f129 := Tryz.func137.trans (congrArg some (by kernel_rfl))
 f171 := Tryz.func67.trans (congrArg some (by kernel_rfl))
 f174 := Tryz.func76.trans (congrArg some (by kernel_rfl))
 f205 := Tryz.func175.trans (congrArg some (by kernel_rfl))
 f243 := Tryz.func108.trans (congrArg some (by kernel_rfl))
 f245 := Tryz.func112.trans (congrArg some (by kernel_rfl))
 f246 := Tryz.func90.trans (congrArg some (by kernel_rfl))
 f247 := Tryz.func111.trans (congrArg some (by kernel_rfl))
 f279 := Tryz.func144.trans (congrArg some (by kernel_rfl))
 f280 := Tryz.func145.trans (congrArg some (by kernel_rfl))
 f281 := Tryz.func146.trans (congrArg some (by kernel_rfl))
 f282 := Tryz.func147.trans (congrArg some (by kernel_rfl))
 f283 := Tryz.func117.trans (congrArg some (by kernel_rfl))
 f284 := Tryz.func118.trans (congrArg some (by kernel_rfl))
 f285 := Tryz.func119.trans (congrArg some (by kernel_rfl))
 f286 := Tryz.func120.trans (congrArg some (by kernel_rfl))
 f287 := Tryz.func143.trans (congrArg some (by kernel_rfl))
 f316 := Tryz.func174.trans (congrArg some (by kernel_rfl))
 f317 := Tryz.func149.trans (congrArg some (by kernel_rfl))
 f318 := Tryz.func150.trans (congrArg some (by kernel_rfl))
 f319 := Tryz.func151.trans (congrArg some (by kernel_rfl))
 f320 := Tryz.func152.trans (congrArg some (by kernel_rfl))
 f321 := Tryz.func172.trans (congrArg some (by kernel_rfl))
 f322 := Tryz.func173.trans (congrArg some (by kernel_rfl))
 f337 := Tryz.func176.trans (congrArg some (by kernel_rfl))
 f338 := Tryz.func177.trans (congrArg some (by kernel_rfl))
 t0 := Tryz.underlying0
 a0 := Tryz.isAgg0
 z0 := Tryz.sizeOf0
 v0 := Tryz.zeroValue0
 t2 := Tryz.underlying2
 a2 := Tryz.isAgg2
 z2 := Tryz.sizeOf2
 v2 := Tryz.zeroValue2
 t3 := Tryz.underlying3
 a3 := Tryz.isAgg3
 z3 := Tryz.sizeOf3
 v3 := Tryz.zeroValue3
 t4 := Tryz.underlying4
 a4 := Tryz.isAgg4
 z4 := Tryz.sizeOf4
 v4 := Tryz.zeroValue4
 t5 := Tryz.underlying5
 a5 := Tryz.isAgg5
 z5 := Tryz.sizeOf5
 v5 := Tryz.zeroValue5
 t9 := Tryz.underlying9
 a9 := Tryz.isAgg9
 z9 := Tryz.sizeOf9
 v9 := Tryz.zeroValue9
 t20 := Tryz.underlying20
 a20 := Tryz.isAgg20
 z20 := Tryz.sizeOf20
 v20 := Tryz.zeroValue20
 t21 := Tryz.underlying21
 a21 := Tryz.isAgg21
 z21 := Tryz.sizeOf21
 v21 := Tryz.zeroValue21
 t37 := Tryz.underlying87
 a37 := Tryz.isAgg87
 z37 := Tryz.sizeOf87
 v37 := Tryz.zeroValue87
 t46 := Tryz.underlying166
 a46 := Tryz.isAgg166
 z46 := Tryz.sizeOf166
 v46 := Tryz.zeroValue166
 t51 := Tryz.underlying197
 a51 := Tryz.isAgg197
 z51 := Tryz.sizeOf197
 v51 := Tryz.zeroValue197
 t53 := Tryz.underlying178
 a53 := Tryz.isAgg178
 z53 := Tryz.sizeOf178
 v53 := Tryz.zeroValue178
 t75 := Tryz.underlying107
 a75 := Tryz.isAgg107
 z75 := Tryz.sizeOf107
 v75 := Tryz.zeroValue107
 t85 := Tryz.underlying145
 a85 := Tryz.isAgg145
 z85 := Tryz.sizeOf145
 v85 := Tryz.zeroValue145
 t127 := Tryz.underlying154
 a127 := Tryz.isAgg154
 z127 := Tryz.sizeOf154
 v127 := Tryz.zeroValue154
 t143 := Tryz.underlying242
 a143 := Tryz.isAgg242
 z143 := Tryz.sizeOf242
 v143 := Tryz.zeroValue242
 t145 := Tryz.underlying244
 a145 := Tryz.isAgg244
 z145 := Tryz.sizeOf244
 v145 := Tryz.zeroValue244
 t167 := Tryz.underlying199
 a167 := Tryz.isAgg199
 z167 := Tryz.sizeOf199
 v167 := Tryz.zeroValue199
 t168 := Tryz.underlying202
 a168 := Tryz.isAgg202
 z168 := Tryz.sizeOf202
 v168 := Tryz.zeroValue202
 t171 := Tryz.underlying177
 a171 := Tryz.isAgg177
 z171 := Tryz.sizeOf177
 v171 := Tryz.zeroValue177
 t173 := Tryz.underlying181
 a173 := Tryz.isAgg181
 z173 := Tryz.sizeOf181
 v173 := Tryz.zeroValue181
 t175 := Tryz.underlying200
 a175 := Tryz.isAgg200
 z175 := Tryz.sizeOf200
 v175 := Tryz.zeroValue200
 t210 := Tryz.underlying235
 a210 := Tryz.isAgg235
 z210 := Tryz.sizeOf235
 v210 := Tryz.zeroValue235
 t212 := Tryz.underlying207
 a212 := Tryz.isAgg207
 z212 := Tryz.sizeOf207
 v212 := Tryz.zeroValue207
 t213 := Tryz.underlying208
 a213 := Tryz.isAgg208
 z213 := Tryz.sizeOf208
 t232 := Tryz.underlying245
 a232 := Tryz.isAgg245
 z232 := Tryz.sizeOf245
 v232 := Tryz.zeroValue245
 t233 := Tryz.underlying246
 a233 := Tryz.isAgg246
 z233 := Tryz.sizeOf246
 v233 := Tryz.zeroValue246
 g15 := by kernel_rfl
 g16 := by kernel_rfl
 g17 := by kernel_rfl
 g18 := by kernel_rfl
 g19 := by kernel_rfl
 t80 := Tryz.underlying84
 a80 := Tryz.isAgg84
 z80 := Tryz.sizeOf84
 v80 := Tryz.zeroValue84
 i0 := by kernel_rfl
 i2 := by kernel_rfl
 i3 := by kernel_rfl
 i4 := by kernel_rfl
 i5 := by kernel_rfl
 i9 := by kernel_rfl
 i20 := by kernel_rfl
 i21 := by kernel_rfl
 i37 := by kernel_rfl
 i46 := by kernel_rfl
 i51 := by kernel_rfl
 i53 := by kernel_rfl
 i75 := by kernel_rfl
 i80 := by kernel_rfl
 i85 := by kernel_rfl
 i127 := by kernel_rfl
 i143 := by kernel_rfl
 i145 := by kernel_rfl
 i167 := by kernel_rfl
 i168 := by kernel_rfl
 i171 := by kernel_rfl
 i173 := by kernel_rfl
 i175 := by kernel_rfl
 i210 := by kernel_rfl
 i212 := by kernel_rfl
 i232 := by kernel_rfl
 i233 := by kernel_rfl
 m15 := by kernel_rfl
 m16 := by kernel_rfl
 m17 := by kernel_rfl
 m18 := by kernel_rfl
 m19 := by kernel_rfl
 c0 := by kernel_rfl
 c2 := by kernel_rfl
 c3 := by kernel_rfl
 c4 := by kernel_rfl
 c5 := by kernel_rfl
 c9 := by kernel_rfl
 c20 := by kernel_rfl
 c21 := by kernel_rfl
 c37 := by kernel_rfl
 c46 := by kernel_rfl
 c51 := by kernel_rfl
 c53 := by kernel_rfl
 c75 := by kernel_rfl
 c80 := by kernel_rfl
 c85 := by kernel_rfl
 c127 := by kernel_rfl
 c143 := by kernel_rfl
 c145 := by kernel_rfl
 c167 := by kernel_rfl
 c168 := by kernel_rfl
 c171 := by kernel_rfl
 c173 := by kernel_rfl
 c175 := by kernel_rfl
 c210 := by kernel_rfl
 c212 := by kernel_rfl
 c213 := by kernel_rfl
 c232 := by kernel_rfl
 c233 := by kernel_rfl
 }
end Go.Proofs
namespace Go.Proofs.YtjcdkbalhleeeaaGreatDoor
open Go.Proofs Go.RowKit
open Go.Lib (itoa join)
def Errs (w : World) : Prop := ∃ t1 p1 t2 p2, ∀ w', Below w.heap.size w w' → w'.var? Tryz.prog "strconv.ErrSyntax" = some #[.iface t1 p1] ∧ w'.var? Tryz.prog "strconv.ErrRange" = some #[.iface t2 p2]
theorem Errs.below {w w' : World} (h : Errs w) (hb : Below w.heap.size w w') : Errs w' := by
 obtain ⟨t1, p1, t2, p2, h⟩ := h
 exact ⟨t1, p1, t2, p2, fun w'' h' => h w'' (hb.trans (h'.mono hb.size))⟩
theorem below_bytes (w : World) (t : TypeId) (s : ByteArray) : Below w.heap.size w (Lib.bytesWorld w t s) :=
 ⟨rfl, rfl, rfl, by rw [Lib.bytesWorld_size]; omega, fun j hj => Lib.bytesWorld_at_old w t s j hj⟩
theorem parse_int (s : List UInt8) (w : World) (hs : s.length ≤ 1099511627776) (he : Errs w) :
    Calls Tryz.prog 76 #[.string (bs s), .int .i64 10, .int .i64 64] w fun e w' => Below w.heap.size w w' ∧
     ((∃ n, Lib.parseIntB 64 s = .ok n ∧ e = .returned (.tuple #[.int .i64 n, .nilIface])) ∨ ((∀ n, Lib.parseIntB 64 s ≠ .ok n) ∧ ∃ n t p, e = .returned (.tuple #[.int .i64 n, .iface t p]))) := by
 obtain ⟨t1, p1, t2, p2, he⟩ := he
 obtain ⟨he1, he2⟩ := he w (Below.refl _ _)
 have hd : (bs s).data.toList = s := bs_data s
 have hz : (bs s).size = s.length := bs_size s
 rcases h : Lib.parseIntB 64 s with n | _ | _
 ·refine (Any.strconv_ParseInt_10_at64_ok Tryz.lays174 (bs s) (by omega) n (by rw [hd]; exact h) w).mono ?_
  rintro e w' ⟨rfl, rfl | ⟨t, rfl⟩⟩
  ·exact ⟨Below.refl _ _, Or.inl ⟨n, rfl, rfl⟩⟩
  ·exact ⟨below_bytes _ _ _, Or.inl ⟨n, rfl, rfl⟩⟩
 ·refine (Any.strconv_ParseInt_10_at64_syntax_var Tryz.lays174 (bs s) (by omega) (by rw [hd]; exact h) t1 p1 w he1).mono ?_
  rintro e w' ⟨N, rfl, _, _, hb⟩
  exact ⟨hb, Or.inr ⟨by simp, _, _, _, rfl⟩⟩
 ·refine (Any.strconv_ParseInt_10_at64_range_var Tryz.lays174 (bs s) (by omega) (by rw [hd]; exact h) t2 p2 w he2).mono ?_
  rintro e w' ⟨N, rfl, _, _, hb⟩
  exact ⟨hb, Or.inr ⟨by simp, _, _, _, rfl⟩⟩
def MaxL (w : World) : Prop := ∃ m, ∀ w', Below w.heap.size w w' → w'.cell? ⟨0, 0, none⟩ = some (.int .i64 m)
theorem MaxL.below {w w' : World} (h : MaxL w) (hb : Below w.heap.size w w') : MaxL w' := by
 obtain ⟨m, h⟩ := h
 exact ⟨m, fun w'' h' => h w'' (hb.trans (h'.mono hb.size))⟩
theorem split_cut (s : List UInt8) (c : UInt8) : Lib.splitB (bs [c]) 0 (Lib.countB (bs s) (bs [c])) (bs s) = (cutB c s).map bs ∧ Lib.countB (bs s) (bs [c]) + 1 = (cutB c s).length := by
 have hc : Lib.countB (bs s) (bs [c]) = s.count c := by
  show Lib.count (bs s).data.toList (bs [c]).data.toList = _
  rw [bs_data, bs_data, Lib.count_one]
 have h1 := Lib.splitB_data (bs [c]) 0 (Lib.countB (bs s) (bs [c])) (bs s)
 rw [bs_data, bs_data, hc, splitK_cut c s.length s (Nat.le_refl _)] at h1
 refine ⟨?_, by rw [hc, cutB_length]⟩
 rw [hc, ← h1, List.map_map]
 conv => lhs; rw [← List.map_id (Lib.splitB (bs [c]) 0 (s.count c) (bs s))]
 exact List.map_congr_left fun x _ => (bs_of x).symm
theorem strings_Split (s : List UInt8) (c : UInt8) (w : World) (hs : s.length ≤ 1073741824) (hw : MaxL w) :
    Calls Tryz.prog 12 #[.string (bs s), .string (bs [c])] w fun e w' => ∃ A cap, e = .returned (.slice A (cutB c s).length cap) ∧ Sd w' A cap (cutB c s) ∧ Below w.heap.size w w' ∧ ∀ ad, A = some ad → w.heap.size ≤ ad.block := by
 obtain ⟨m, hm⟩ := hw
 obtain ⟨h1, h2⟩ := split_cut s c
 refine (Any.strings_Split { Tryz.lays146 with } Tryz.lays146.i9 (bs s) (bs [c]) m w (by rw [bs_size]; omega) (hm w (Below.refl _ _)) (by rw [bs_size]; simp)).mono ?_
 rintro e w' ⟨rfl, rfl⟩
 rw [h1, h2]
 refine ⟨_, _, rfl, ⟨Nat.le_refl _, ?_, fun h0 => ⟨_, rfl, fun j u hu => ?_⟩⟩, (Below.refl _ _).alloc (Nat.le_refl _) _, fun ad e => by cases e; exact Nat.le_refl _⟩
 ·have := cut_small (c := c) (s := s); omega
 ·rw [addzG, cell_of_row _ w.heap.size j _ _ (0, 0) (heap_alloc_new w _), List.map_map]
  simpa using hu
end Go.Proofs.YtjcdkbalhleeeaaGreatDoor

namespace Go.Proofs.YtjcdkbalhleeeaaGreatDoor
open Go.Proofs Go.RowKit
open Go.Lib (itoa join)
theorem parse_ok (s : List UInt8) (w : World) (hs : s.length ≤ 1099511627776) (he : Errs w) {n : Int} (h : Lib.parseIntB 64 s = .ok n) :
    Calls Tryz.prog 76 #[.string (bs s), .int .i64 10, .int .i64 64] w fun e w' => e = .returned (.tuple #[.int .i64 n, .nilIface]) ∧ Below w.heap.size w w' := by
 refine (parse_int s w hs he).mono ?_
 rintro e w' ⟨hb, ⟨m, h1, rfl⟩ | ⟨h1, _⟩⟩
 ·rw [h] at h1; injection h1 with h1; subst h1; exact ⟨rfl, hb⟩
 ·exact absurd h (h1 n)
theorem parse_bad (s : List UInt8) (w : World) (hs : s.length ≤ 1099511627776) (he : Errs w) (h : ∀ n, Lib.parseIntB 64 s ≠ .ok n) :
    Calls Tryz.prog 76 #[.string (bs s), .int .i64 10, .int .i64 64] w fun e w' => ∃ n t p, e = .returned (.tuple #[.int .i64 n, .iface t p]) ∧ Below w.heap.size w w' := by
 refine (parse_int s w hs he).mono ?_
 rintro e w' ⟨hb, ⟨m, h1, rfl⟩ | ⟨_, n, t, p, rfl⟩⟩
 ·exact absurd h1 (h m)
 ·exact ⟨n, t, p, rfl, hb⟩
set_option maxRecDepth 100000 in
theorem text_numbers (A : Option Addr) (c : Nat) (l : List (List UInt8)) (w : World) (hr : Sd w A c l) (hn : l.length ≤ 1099511627776) (hx : ∀ x ∈ l, x.length ≤ 1099511627776) (ht : Tab w) (he : Errs w) :
    Calls Tryz.prog 30 #[.slice A l.length c] w (RetNs w l) := by
 have HR := h_ hr
 have HT := h_ ht
 have HE := h_ he
 clear ht he
 obtain ⟨hl, hc, hcell⟩ := hr
 go_enter Tryz.func30, Tryz.ntmps30
 go_wp2_with fail
 go_loopw [4, 11] (fun o i wx => ∃ (k : Nat) (vs : List Int), k ≤ l.length ∧ i = .int .i64 k ∧ numsR (l.take k) = some vs ∧ wx.ownsRow w.heap.size 2 1 o k (vs.map (Value.int .i64)) ∧ Below w.heap.size w wx) (fun _ i _ => l.length - (intOf i).toNat)
 case atStart => exact ⟨0, [], by omega, rfl, rfl, World.ownsRow_nil _ _ _ _, Below.refl _ _⟩
 case round =>
  obtain ⟨k, vs, hk, rfl, hvs, hown, hbel⟩ := hrel
  rename World => U
  have HB := h_ hbel
  have HO := h_ hown
  have zB := hbel.size
  clear hown hbel
  by_cases hlt : k < l.length
  ·obtain ⟨ad, e0, hcl⟩ := (HR.out.below HB.out).at_ hlt
   subst e0
   have hi0 : (k : Int) < (l.length : Int) := by omega
   have hlx := hx _ (List.getElem_mem hlt)
   have HTK := h_ (fun (n : Int) (h : numR l[k] = some n) => numsR_take hlt hvs h)
   have HNO := h_ (fun (h : numR l[k] = none) => numsR_none hlt h)
   unfold strV at hcl
   have HTU := h_ (HT.out.below HB.out)
   have HEU := h_ (HE.out.below HB.out)
   have HNP := h_ (numP_eq l[k])
   generalize l[k] = s at *
   by_cases hp : ∃ n, Lib.parseIntB 64 s = .ok n
   ·obtain ⟨n, hp⟩ := hp
    have HPI := h_ (parse_ok s U hlx HEU.out hp)
    have HNR := h_ (show numR s = if -999999 ≤ n ∧ n ≤ 999999 ∧ itoa n = s then some n else none by rw [← HNP.out, numP, hp])
    by_cases h1 : n < -999999
    ·have hd1 : decide (n < -999999) = true := by simpa using h1
     have HNN := h_ (HNO.out (by rw [HNR.out, if_neg (by omega)]))
     go_wp2_with (go_at_call 76; refine HPI.out.mono ?_; rintro e w1 ⟨rfl, hb1⟩)
     refine bodyPost_ret (v := .tuple #[.slice none 0 0, .bool false]) ?_ ?_ ?_
     ·simp [results, Tryz.results30, go_sem]
     ·rfl
     ·exact ⟨HB.out.trans (hb1.mono zB), Or.inr ⟨HNN.out, rfl⟩⟩
    have hd1 : decide (n < -999999) = false := by simpa using h1
    by_cases h2 : 999999 < n
    ·have hd2 : decide (999999 < n) = true := by simpa using h2
     have HNN := h_ (HNO.out (by rw [HNR.out, if_neg (by omega)]))
     go_wp2_with (go_at_call 76; refine HPI.out.mono ?_; rintro e w1 ⟨rfl, hb1⟩)
     refine bodyPost_ret (v := .tuple #[.slice none 0 0, .bool false]) ?_ ?_ ?_
     ·simp [results, Tryz.results30, go_sem]
     ·rfl
     ·exact ⟨HB.out.trans (hb1.mono zB), Or.inr ⟨HNN.out, rfl⟩⟩
    have hd2 : decide (999999 < n) = false := by simpa using h2
    have HFI := h_ (fun (W : World) (hW : Below U.heap.size U W) => format_int n (by omega) (by omega) W (HTU.out.below hW))
    have hq : ((bs (itoa n)).toList == (bs s).toList) = decide (itoa n = s) := by rw [bs_list, bs_list]; exact Bool.beq_eq_decide_eq _ _
    by_cases h3 : itoa n = s
    ·have hd3 : decide (itoa n = s) = true := by simpa using h3
     have HTN := h_ (HTK.out n (by rw [HNR.out, if_pos ⟨by omega, by omega, h3⟩]))
     rw [hd3] at hq
     clear h3 hd3 hp
     generalize bs (itoa n) = t1 at *
     generalize bs s = t0 at *
     go_wp2_with (first
      | (go_at_call 76; refine HPI.out.mono ?_; rintro e w1 ⟨rfl, hb1⟩)
      | (go_at_call 44; refine (HFI.out _ hb1).mono ?_; rintro e w2 ⟨rfl, hb2⟩; have hb3 := hb1.trans (hb2.mono hb1.size))
      | (at_builtin; refine list_app1 rfl (.tmp 36) (.tmp 38) 25 2 (.int .i64 0) 8 und_i64s inf_i64 rfl rfl w.heap.size _ k _ (.int .i64 n) rfl (own_below HO.out (hb3.alloc hb3.size _)) _ 1 rfl (cell_new1 _ _ _) rfl (by unfold maxLen; omega) (by omega) (by have := hb3.size; simp; omega) ?_; intro g cap w5 hown5 hg5 hat5 hlt5))
     go_roundw
     case rel => exact ⟨k + 1, vs ++ [n], by omega, by go_num, HTN.out, by rw [List.map_append]; exact hown5, ((HB.out.trans (hb3.mono zB)).alloc (by have := hb3.size; omega) _).grown hg5 (by have := hb3.size; simp; omega) (own_ge HO.out (Nat.le_refl _))⟩
     case measure => simp [intOf]; omega
    ·have hd3 : decide (itoa n = s) = false := by simpa using h3
     have HNN := h_ (HNO.out (by rw [HNR.out, if_neg (fun q => h3 q.2.2)]))
     rw [hd3] at hq
     clear h3 hd3 hp
     generalize bs (itoa n) = t1 at *
     generalize bs s = t0 at *
     go_wp2_with (first
      | (go_at_call 76; refine HPI.out.mono ?_; rintro e w2 ⟨rfl, hb2⟩)
      | (go_at_call 44; refine (HFI.out _ hb2).mono ?_; rintro e w1 ⟨rfl, hb4⟩; have hb1 := hb2.trans (hb4.mono hb2.size)))
     refine bodyPost_ret (v := .tuple #[.slice none 0 0, .bool false]) ?_ ?_ ?_
     ·simp [results, Tryz.results30, go_sem]
     ·rfl
     ·exact ⟨HB.out.trans (hb1.mono zB), Or.inr ⟨HNN.out, rfl⟩⟩
   ·have HPB := h_ (parse_bad s U hlx HEU.out (fun n e => hp ⟨n, e⟩))
    have HNN := h_ (HNO.out (by
     rw [← HNP.out]; unfold numP
     rcases h : Lib.parseIntB 64 s with n | _ | _
     ·exact absurd ⟨n, h⟩ hp
     ·rfl
     ·rfl))
    generalize bs s = t0 at *
    go_wp2_with (go_at_call 76; refine HPB.out.mono ?_; rintro e w1 ⟨n, t, p, rfl, hb1⟩)
    refine bodyPost_ret (v := .tuple #[.slice none 0 0, .bool false]) ?_ ?_ ?_
    ·simp [results, Tryz.results30, go_sem]
    ·rfl
    ·exact ⟨HB.out.trans (hb1.mono zB), Or.inr ⟨HNN.out, rfl⟩⟩
  ·obtain rfl : k = l.length := by omega
   have hi0 : decide ((l.length : Int) < (l.length : Int)) = false := by simp
   rw [List.take_length] at hvs
   have hvl := (numsR_small hvs).2
   obtain ⟨A5, c5, rfl, hrd, _⟩ := Rd.of_ownv HO.out hvl.symm (by omega)
   have hnw : ∀ ad, A5 = some ad → w.heap.size ≤ ad.block ∧ ad.block < U.heap.size := fun ad e => HO.out.lt ad.block (by rw [e]; rfl)
   go_wp2_with fail
   refine bodyPost_ret (v := .tuple #[.slice A5 vs.length c5, .bool true]) ?_ ?_ ?_
   ·simp [results, Tryz.results30, go_sem]
   ·rfl
   ·exact ⟨HB.out, Or.inl ⟨vs, A5, c5, hvs, rfl, hrd, hnw⟩⟩
end Go.Proofs.YtjcdkbalhleeeaaGreatDoor

set_option maxRecDepth 100000
namespace Go.Proofs.YtjcdkbalhleeeaaGreatDoor
open Go.Proofs Go.RowKit
open Go.Lib (itoa join)
theorem drive_numbers (A : Option Addr) (c : Nat) (l : List (List UInt8)) (w : World) (hr : Sd w A c l) (hn : l.length ≤ 1099511627776) (hx : ∀ x ∈ l, x.length ≤ 1099511627776) (ht : Tab w) (he : Errs w) :
    Calls Tryz.prog 68 #[.slice A l.length c] w (RetNs w l) := by
 have HR := h_ hr
 have HT := h_ ht
 have HE := h_ he
 clear ht he
 obtain ⟨hl, hc, hcell⟩ := hr
 go_enter Tryz.func68, Tryz.ntmps68
 go_wp2_with fail
 go_loopw [4, 11] (fun o i wx => ∃ (k : Nat) (vs : List Int), k ≤ l.length ∧ i = .int .i64 k ∧ numsR (l.take k) = some vs ∧ wx.ownsRow w.heap.size 2 1 o k (vs.map (Value.int .i64)) ∧ Below w.heap.size w wx) (fun _ i _ => l.length - (intOf i).toNat)
 case atStart => exact ⟨0, [], by omega, rfl, rfl, World.ownsRow_nil _ _ _ _, Below.refl _ _⟩
 case round =>
  obtain ⟨k, vs, hk, rfl, hvs, hown, hbel⟩ := hrel
  rename World => U
  have HB := h_ hbel
  have HO := h_ hown
  have zB := hbel.size
  clear hown hbel
  by_cases hlt : k < l.length
  ·obtain ⟨ad, e0, hcl⟩ := (HR.out.below HB.out).at_ hlt
   subst e0
   have hi0 : (k : Int) < (l.length : Int) := by omega
   have hlx := hx _ (List.getElem_mem hlt)
   have HTK := h_ (fun (n : Int) (h : numR l[k] = some n) => numsR_take hlt hvs h)
   have HNO := h_ (fun (h : numR l[k] = none) => numsR_none hlt h)
   unfold strV at hcl
   have HTU := h_ (HT.out.below HB.out)
   have HEU := h_ (HE.out.below HB.out)
   have HNP := h_ (numP_eq l[k])
   generalize l[k] = s at *
   by_cases hp : ∃ n, Lib.parseIntB 64 s = .ok n
   ·obtain ⟨n, hp⟩ := hp
    have HPI := h_ (parse_ok s U hlx HEU.out hp)
    have HNR := h_ (show numR s = if -999999 ≤ n ∧ n ≤ 999999 ∧ itoa n = s then some n else none by rw [← HNP.out, numP, hp])
    by_cases h1 : n < -999999
    ·have hd1 : decide (n < -999999) = true := by simpa using h1
     have HNN := h_ (HNO.out (by rw [HNR.out, if_neg (by omega)]))
     go_wp2_with (go_at_call 76; refine HPI.out.mono ?_; rintro e w1 ⟨rfl, hb1⟩)
     refine bodyPost_ret (v := .tuple #[.slice none 0 0, .bool false]) ?_ ?_ ?_
     ·simp [results, Tryz.results68, go_sem]
     ·rfl
     ·exact ⟨HB.out.trans (hb1.mono zB), Or.inr ⟨HNN.out, rfl⟩⟩
    have hd1 : decide (n < -999999) = false := by simpa using h1
    by_cases h2 : 999999 < n
    ·have hd2 : decide (999999 < n) = true := by simpa using h2
     have HNN := h_ (HNO.out (by rw [HNR.out, if_neg (by omega)]))
     go_wp2_with (go_at_call 76; refine HPI.out.mono ?_; rintro e w1 ⟨rfl, hb1⟩)
     refine bodyPost_ret (v := .tuple #[.slice none 0 0, .bool false]) ?_ ?_ ?_
     ·simp [results, Tryz.results68, go_sem]
     ·rfl
     ·exact ⟨HB.out.trans (hb1.mono zB), Or.inr ⟨HNN.out, rfl⟩⟩
    have hd2 : decide (999999 < n) = false := by simpa using h2
    have HFI := h_ (fun (W : World) (hW : Below U.heap.size U W) => format_int n (by omega) (by omega) W (HTU.out.below hW))
    have hq : ((bs (itoa n)).toList == (bs s).toList) = decide (itoa n = s) := by rw [bs_list, bs_list]; exact Bool.beq_eq_decide_eq _ _
    by_cases h3 : itoa n = s
    ·have hd3 : decide (itoa n = s) = true := by simpa using h3
     have HTN := h_ (HTK.out n (by rw [HNR.out, if_pos ⟨by omega, by omega, h3⟩]))
     rw [hd3] at hq
     clear h3 hd3 hp
     generalize bs (itoa n) = t1 at *
     generalize bs s = t0 at *
     go_wp2_with (first
      | (go_at_call 76; refine HPI.out.mono ?_; rintro e w1 ⟨rfl, hb1⟩)
      | (go_at_call 44; refine (HFI.out _ hb1).mono ?_; rintro e w2 ⟨rfl, hb2⟩; have hb3 := hb1.trans (hb2.mono hb1.size))
      | (at_builtin; refine list_app1 rfl (.tmp 36) (.tmp 38) 25 2 (.int .i64 0) 8 und_i64s inf_i64 rfl rfl w.heap.size _ k _ (.int .i64 n) rfl (own_below HO.out (hb3.alloc hb3.size _)) _ 1 rfl (cell_new1 _ _ _) rfl (by unfold maxLen; omega) (by omega) (by have := hb3.size; simp; omega) ?_; intro g cap w5 hown5 hg5 hat5 hlt5))
     go_roundw
     case rel => exact ⟨k + 1, vs ++ [n], by omega, by go_num, HTN.out, by rw [List.map_append]; exact hown5, ((HB.out.trans (hb3.mono zB)).alloc (by have := hb3.size; omega) _).grown hg5 (by have := hb3.size; simp; omega) (own_ge HO.out (Nat.le_refl _))⟩
     case measure => simp [intOf]; omega
    ·have hd3 : decide (itoa n = s) = false := by simpa using h3
     have HNN := h_ (HNO.out (by rw [HNR.out, if_neg (fun q => h3 q.2.2)]))
     rw [hd3] at hq
     clear h3 hd3 hp
     generalize bs (itoa n) = t1 at *
     generalize bs s = t0 at *
     go_wp2_with (first
      | (go_at_call 76; refine HPI.out.mono ?_; rintro e w2 ⟨rfl, hb2⟩)
      | (go_at_call 44; refine (HFI.out _ hb2).mono ?_; rintro e w1 ⟨rfl, hb4⟩; have hb1 := hb2.trans (hb4.mono hb2.size)))
     refine bodyPost_ret (v := .tuple #[.slice none 0 0, .bool false]) ?_ ?_ ?_
     ·simp [results, Tryz.results68, go_sem]
     ·rfl
     ·exact ⟨HB.out.trans (hb1.mono zB), Or.inr ⟨HNN.out, rfl⟩⟩
   ·have HPB := h_ (parse_bad s U hlx HEU.out (fun n e => hp ⟨n, e⟩))
    have HNN := h_ (HNO.out (by
     rw [← HNP.out]; unfold numP
     rcases h : Lib.parseIntB 64 s with n | _ | _
     ·exact absurd ⟨n, h⟩ hp
     ·rfl
     ·rfl))
    generalize bs s = t0 at *
    go_wp2_with (go_at_call 76; refine HPB.out.mono ?_; rintro e w1 ⟨n, t, p, rfl, hb1⟩)
    refine bodyPost_ret (v := .tuple #[.slice none 0 0, .bool false]) ?_ ?_ ?_
    ·simp [results, Tryz.results68, go_sem]
    ·rfl
    ·exact ⟨HB.out.trans (hb1.mono zB), Or.inr ⟨HNN.out, rfl⟩⟩
  ·obtain rfl : k = l.length := by omega
   have hi0 : decide ((l.length : Int) < (l.length : Int)) = false := by simp
   rw [List.take_length] at hvs
   have hvl := (numsR_small hvs).2
   obtain ⟨A5, c5, rfl, hrd, _⟩ := Rd.of_ownv HO.out hvl.symm (by omega)
   have hnw : ∀ ad, A5 = some ad → w.heap.size ≤ ad.block ∧ ad.block < U.heap.size := fun ad e => HO.out.lt ad.block (by rw [e]; rfl)
   go_wp2_with fail
   refine bodyPost_ret (v := .tuple #[.slice A5 vs.length c5, .bool true]) ?_ ?_ ?_
   ·simp [results, Tryz.results68, go_sem]
   ·rfl
   ·exact ⟨HB.out, Or.inl ⟨vs, A5, c5, hvs, rfl, hrd, hnw⟩⟩
theorem keep_split (s : List UInt8) (c : UInt8) (w : World) (hs : s.length ≤ 1099511627776) :
    Calls Tryz.prog 5 #[.string (bs s), .int .u8 c.toNat] w fun e w' => ∃ A cap, e = .returned (.slice A (cutB c s).length cap) ∧ Sd w' A cap (cutB c s) ∧ Below w.heap.size w w' := by
 have hz : (bs s).size = s.length := bs_size s
 go_enter Tryz.func5, Tryz.ntmps5
 go_wp2_with fail
 go_loopw [5, 6, 7] (fun o f i wx => ∃ (k : Nat), i = .int .i64 k ∧ Below w.heap.size w wx ∧
     ((k ≤ s.length ∧ ∃ (q : Nat), q ≤ k ∧ f = .int .i64 q ∧ (s.take k).drop q = (cutB c (s.take k)).getLastD [] ∧ wx.ownsRow w.heap.size 9 1 o (cutB c (s.take k)).dropLast.length ((cutB c (s.take k)).dropLast.map strV)) ∨
      (k = s.length + 1 ∧ wx.ownsRow w.heap.size 9 1 o (cutB c s).length ((cutB c s).map strV)))) (fun _ _ i _ => s.length + 1 - (intOf i).toNat)
 case atStart => exact ⟨0, rfl, Below.refl _ _, Or.inl ⟨by omega, 0, by omega, rfl, by simp [cutB], by simpa [cutB] using World.ownsRow_nil _ _ _ _⟩⟩
 case round =>
  obtain ⟨k, rfl, hbel, hcs⟩ := hrel
  rename World => U
  have HB := h_ hbel
  have zB := hbel.size
  clear hbel
  rcases hcs with ⟨hk, q, hq, rfl, hd, hown⟩ | ⟨rfl, hown⟩
  ·have HO := h_ hown
   have hcl : (cutB c (s.take k)).dropLast.length ≤ s.length := by
    have := cut_small (c := c) (s := s.take k)
    rw [List.length_dropLast]; rw [List.length_take] at this; omega
   have hext : (bs s).extract q k = bs ((s.take k).drop q) := by rw [bs_ext, List.drop_take]
   have hi0 : (k : Int) ≤ (s.length : Int) := by omega
   have hiq : (q : Int) ≤ (k : Int) := by omega
   clear hown
   by_cases hlt : k < s.length
   ·have hne : ((k : Int) == (s.length : Int)) = false := by rw [beq_eq_false_iff_ne]; omega
    have hi1 : (k : Int) < (s.length : Int) := by omega
    have hix := bs_at s hlt
    obtain ⟨h1, h2⟩ := cut_step hlt hq hd
    by_cases hc : s[k] = c
    ·obtain ⟨e1, e2⟩ := h1 hc
     rw [hc] at hix
     have HE1 := h_ e1
     have HE2 := h_ e2
     clear h1 h2 e1 e2 hd
     generalize (s.take k).drop q = sx at *
     generalize (cutB c (s.take k)).dropLast = L at *
     go_wp2_with (at_builtin; refine list_app1 rfl (.tmp 25) (.tmp 30) 22 9 (.string ByteArray.empty) 16 und_strG inf_strG rfl rfl w.heap.size _ _ _ (.string (bs sx)) rfl (own_below HO.out ((Below.refl _ _).alloc (Nat.le_refl _) _)) _ 1 rfl (cell_new1 _ _ _) rfl (by unfold maxLen; omega) (by omega) (by simp; omega) ?_; intro g cap w5 hown5 hg5 hat5 hlt5)
     go_roundw
     case rel => exact ⟨k + 1, by go_num, (HB.out.alloc zB _).grown hg5 (by simp; omega) (own_ge HO.out (Nat.le_refl _)), Or.inl ⟨by omega, k + 1, by omega, by go_num, HE2.out, by rw [HE1.out, List.length_append, List.map_append]; exact hown5⟩⟩
     case measure => simp [intOf]; omega
    ·obtain ⟨e1, e2⟩ := h2 hc
     have hcc : (((s[k]).toNat : Int) == (c.toNat : Int)) = false := u8_ne hc
     have HE1 := h_ e1
     have HE2 := h_ e2
     clear h1 h2 e1 e2 hd
     generalize s[k] = x at *
     go_wp2_with fail
     go_roundw
     case rel => exact ⟨k + 1, by go_num, HB.out, Or.inl ⟨by omega, q, by omega, rfl, HE2.out, by rw [HE1.out]; exact HO.out⟩⟩
     case measure => simp [intOf]; omega
   ·obtain rfl : k = s.length := by omega
    have hne : ((s.length : Int) == (s.length : Int)) = true := by simp
    rw [List.take_length] at hd HO hext hcl
    have HE := h_ (cut_end hd)
    clear hd
    generalize s.drop q = sx at *
    generalize (cutB c s).dropLast = L at *
    go_wp2_with (at_builtin; refine list_app1 rfl (.tmp 25) (.tmp 30) 22 9 (.string ByteArray.empty) 16 und_strG inf_strG rfl rfl w.heap.size _ _ _ (.string (bs sx)) rfl (own_below HO.out ((Below.refl _ _).alloc (Nat.le_refl _) _)) _ 1 rfl (cell_new1 _ _ _) rfl (by unfold maxLen; omega) (by omega) (by simp; omega) ?_; intro g cap w5 hown5 hg5 hat5 hlt5)
    go_roundw
    case rel => exact ⟨s.length + 1, by go_num, (HB.out.alloc zB _).grown hg5 (by simp; omega) (own_ge HO.out (Nat.le_refl _)), Or.inr ⟨rfl, by rw [← HE.out, List.length_append, List.map_append]; exact hown5⟩⟩
    case measure => simp [intOf]
  ·have hd0 : ¬ (((s.length + 1 : Nat) : Int) ≤ (s.length : Int)) := by omega
   have hd1 : ¬ ((s.length : Int) + 1 ≤ (s.length : Int)) := by omega
   obtain ⟨A5, c5, rfl, hrd, _⟩ := Sd.of_own hown rfl
   go_wp2_with fail
   go_ret
   exact ⟨A5, c5, rfl, hrd, HB.out⟩
end Go.Proofs.YtjcdkbalhleeeaaGreatDoor
