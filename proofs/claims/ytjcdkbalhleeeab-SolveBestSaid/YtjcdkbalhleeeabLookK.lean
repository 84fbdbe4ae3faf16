/-
  Words for the walks of the two Looks: rows that are made, numbers that are put into places. No condition.
-/
import Derived.Test.YtjcdkbalhleeeabLook1
import Derived.Test.YtjcdkbalhleeeabOwnM
import Derived.Test.YtjcdkbalhleeeabQTail
namespace Go.Proofs.Ytjcdkbalhleeeab
open Go.RowKit

theorem Rd.natAt {w : World} {A : Option Addr} {c : Nat} {l : List Int} (h : Rd w A c l) (e : l = (nats l).map Int.ofNat) {k : Nat} (hk : k < l.length) :
    ∃ ad, A = some ad ∧ w.cell? (ad.add k) = some (.int .i64 (((nats l).getD k 0 : Nat) : Int)) := by
  obtain ⟨ad, e1, e2⟩ := h.at_ hk
  refine ⟨ad, e1, ?_⟩
  have hk' : k < (nats l).length := by simpa [nats] using hk
  have e3 : l[k] = (((nats l).getD k 0 : Nat) : Int) := by
    have : l[k] = ((nats l).map Int.ofNat)[k]'(by simpa using hk') := by congr 1
    rw [this]; simp [List.getD, List.getElem?_eq_getElem hk']
  rw [← e3]; exact e2
/-- What the first loop has made: two slices of rows, of n numbers each; their blocks from B on; ahead of W's end nothing has turned. -/
structure LookL (B n : Nat) (W wx : World) (p : PG) (q : List Nat) (kd ka : Nat) (v8 v9 : Value) (gd cd ga ca : Nat → Nat) : Prop where
  down : RowsM wx B v8 kd n gd cd (matD p q)
  across : RowsM wx B v9 ka n ga ca (matU p q)
  apart : ∀ b, rowsS v8 kd gd b → ¬ rowsS v9 ka ga b
  base : W.heap.size ≤ B
  below : Below W.heap.size W wx
def LookR (B n : Nat) (W wx : World) (p : PG) (q : List Nat) (k : Nat) (v8 v9 : Value) : Prop := ∃ gd cd ga ca, LookL B n W wx p q k k v8 v9 gd cd ga ca
section
variable {B n : Nat} {W U w' : World} {p : PG} {q : List Nat} {kd ka : Nat} {v8 v9 : Value} {gd cd ga ca : Nat → Nat}
theorem LookL.to (h : LookL B n W U p q kd ka v8 v9 gd cd ga ca) (hb : Below U.heap.size U w') : LookL B n W w' p q kd ka v8 v9 gd cd ga ca :=
  ⟨h.down.below hb (Nat.le_refl _), h.across.below hb (Nat.le_refl _), h.apart, h.base, h.below.trans (hb.mono h.below.size)⟩
theorem LookL.push_down (h : LookL B n W U p q kd ka v8 v9 gd cd ga ca) {r cr o cap : Nat}
    (hr : U.ownsRow B 2 1 (.slice (some ⟨r, 0, none⟩) n cr) n ((List.range n).map fun j => Value.int .i64 (matD p q kd j)))
    (hn8 : ¬ rowsS v8 kd gd r) (hn9 : ¬ rowsS v9 ka ga r)
    (hown : w'.ownsRow B 22 1 (.slice (some ⟨o, 0, none⟩) (kd + 1) cap) (kd + 1) (((List.range kd).map fun i => Value.slice (some ⟨gd i, 0, none⟩) n (cd i)) ++ [.slice (some ⟨r, 0, none⟩) n cr]))
    (hg : U.grownBy w' v8.ownBlock) (hat : v8.ownBlock = some o ∨ o = U.heap.size) :
    LookL B n W w' p q (kd + 1) ka (.slice (some ⟨o, 0, none⟩) (kd + 1) cap) v9 (fun i => if i = kd then r else gd i) (fun i => if i = kd then cr else cd i) ga ca := by
  refine ⟨h.down.push hr hn8 hown hg hat, h.across.grown hg fun b hb hs => h.apart b (.inl hb) hs, fun b hb hs => ?_, h.base, h.below.grown hg h.below.size fun k e => Nat.le_trans h.base (h.down.own.lt k e).1⟩
  rcases RowsM.S_push hb with rfl | rfl | hb
  · rcases hat with e | e
    · exact h.apart _ (.inl e) hs
    · have := (h.across.lt hs).2; omega
  · exact hn9 hs
  · exact h.apart b hb hs
theorem LookL.push_across (h : LookL B n W U p q kd ka v8 v9 gd cd ga ca) {r cr o cap : Nat}
    (hr : U.ownsRow B 2 1 (.slice (some ⟨r, 0, none⟩) n cr) n ((List.range n).map fun j => Value.int .i64 (matU p q ka j)))
    (hn8 : ¬ rowsS v8 kd gd r) (hn9 : ¬ rowsS v9 ka ga r)
    (hown : w'.ownsRow B 22 1 (.slice (some ⟨o, 0, none⟩) (ka + 1) cap) (ka + 1) (((List.range ka).map fun i => Value.slice (some ⟨ga i, 0, none⟩) n (ca i)) ++ [.slice (some ⟨r, 0, none⟩) n cr]))
    (hg : U.grownBy w' v9.ownBlock) (hat : v9.ownBlock = some o ∨ o = U.heap.size) :
    LookL B n W w' p q kd (ka + 1) v8 (.slice (some ⟨o, 0, none⟩) (ka + 1) cap) gd cd (fun i => if i = ka then r else ga i) (fun i => if i = ka then cr else ca i) := by
  refine ⟨h.down.grown hg fun b hb hs => h.apart b hs (.inl hb), h.across.push hr hn9 hown hg hat, fun b hs hb => ?_, h.base, h.below.grown hg h.below.size fun k e => Nat.le_trans h.base (h.across.own.lt k e).1⟩
  rcases RowsM.S_push hb with rfl | rfl | hb
  · rcases hat with e | e
    · exact h.apart _ hs (.inl e)
    · have := (h.down.lt hs).2; omega
  · exact hn8 hs
  · exact h.apart b hs hb
theorem LookL.same (h : LookL B n W U p q kd ka v8 v9 gd cd ga ca)
    (hd : ∀ b, rowsS v8 kd gd b → w'.heap[b]? = U.heap[b]?) (ha : ∀ b, rowsS v9 ka ga b → w'.heap[b]? = U.heap[b]?) (hb : Below W.heap.size W w') : LookL B n W w' p q kd ka v8 v9 gd cd ga ca :=
  ⟨h.down.same hd, h.across.same ha, h.apart, h.base, hb⟩
end
theorem matD_has {p : PG} {q : List Nat} {i j : Nat} (h : j < q.length) : matD p q i j = hasZ p i (q.getD j 0) := by unfold matD; rw [if_pos h]
theorem matU_has {p : PG} {q : List Nat} {i j : Nat} (h : j < q.length) : matU p q i j = hasZ p j (q.getD i 0) := by unfold matU; rw [if_pos h]
theorem matU_cost {p : PG} {q : List Nat} {i : Nat} : matU p q i q.length = costZ p (q.getD i 0) := by unfold matU; rw [if_neg (Nat.lt_irrefl _)]
theorem own_nil_map (w : World) (base : Nat) (f : Nat → Int) : w.ownsRow base 2 1 (.slice none 0 0) 0 ((List.range 0).map fun j => Value.int .i64 (f j)) := World.ownsRow_nil _ _ _ _
/-- A round of the first loop: a row more in each. -/
theorem look_round {W U V X w3 w4 w5 w6 w7 : World} {p : PG} {q : List Nat} {k : Nat} {v8 v9 va vb : Value} {gd cd ga ca : Nat → Nat} {g3 cap3 g4 cap4 g6 cap6 g7 cap7 UB : Nat} {o3 o4 o6 o7 : Obj} {xa xb : List Value} {n : Nat}
    (hk : LookL W.heap.size (p.rows.length + 1) W U p q k k v8 v9 gd cd ga ca) (hUV : Below U.heap.size U V) (hVX : Below V.heap.size V X) (hUB : U.heap.size ≤ UB) (hWU : W.heap.size ≤ U.heap.size)
    (hva : V.ownsRow UB 2 1 va n xa) (hvb : X.ownsRow V.heap.size 2 1 vb n xb)
    (hg3 : (X.alloc o3).grownBy w3 va.ownBlock) (hat3 : va.ownBlock = some g3 ∨ g3 = (X.alloc o3).heap.size)
    (hown3 : w3.ownsRow UB 2 1 (.slice (some ⟨g3, 0, none⟩) (p.rows.length + 1) cap3) (p.rows.length + 1) ((List.range (p.rows.length + 1)).map fun j => Value.int .i64 (matD p q k j)))
    (hg4 : (w3.alloc o4).grownBy w4 v8.ownBlock) (hat4 : v8.ownBlock = some g4 ∨ g4 = (w3.alloc o4).heap.size)
    (hown4 : w4.ownsRow W.heap.size 22 1 (.slice (some ⟨g4, 0, none⟩) (k + 1) cap4) (k + 1) (((List.range k).map fun i => Value.slice (some ⟨gd i, 0, none⟩) (p.rows.length + 1) (cd i)) ++ [.slice (some ⟨g3, 0, none⟩) (p.rows.length + 1) cap3]))
    (hb5 : Below w4.heap.size w4 w5)
    (hg6 : (w5.alloc o6).grownBy w6 vb.ownBlock) (hat6 : vb.ownBlock = some g6 ∨ g6 = (w5.alloc o6).heap.size)
    (hown6 : w6.ownsRow V.heap.size 2 1 (.slice (some ⟨g6, 0, none⟩) (p.rows.length + 1) cap6) (p.rows.length + 1) ((List.range (p.rows.length + 1)).map fun j => Value.int .i64 (matU p q k j)))
    (hg7 : (w6.alloc o7).grownBy w7 v9.ownBlock) (hat7 : v9.ownBlock = some g7 ∨ g7 = (w6.alloc o7).heap.size)
    (hown7 : w7.ownsRow W.heap.size 22 1 (.slice (some ⟨g7, 0, none⟩) (k + 1) cap7) (k + 1) (((List.range k).map fun i => Value.slice (some ⟨ga i, 0, none⟩) (p.rows.length + 1) (ca i)) ++ [.slice (some ⟨g6, 0, none⟩) (p.rows.length + 1) cap6])) :
    LookR W.heap.size (p.rows.length + 1) W w7 p q (k + 1) (.slice (some ⟨g4, 0, none⟩) (k + 1) cap4) (.slice (some ⟨g7, 0, none⟩) (k + 1) cap7) := by
  have z0 := hUV.size
  have z1 := hVX.size
  have z3 := hg3.size
  have z4 := hg4.size
  have z5 := hb5.size
  have z6 := hg6.size
  simp only [World.size_alloc] at z3 z4 z6 hat3 hat4 hat6
  have la := hva.lt
  have lb := hvb.lt
  have G3 : U.heap.size ≤ g3 ∧ (g3 < V.heap.size ∨ X.heap.size ≤ g3) := by
    rcases hat3 with e | e
    · have := la g3 e; omega
    · omega
  have G3' := (hown3.lt g3 rfl).2
  have G4' := (hown4.lt g4 rfl).2
  have hUX : Below U.heap.size U X := hUV.trans (hVX.mono z0)
  have hU3 : Below U.heap.size U w3 := (hUX.alloc hUX.size o3).grown hg3 (by simp; omega) fun j e => by have := la j e; omega
  have h3 := (hk.to hU3).to ((Below.refl _ w3).alloc (Nat.le_refl _) o4)
  have G4 : g4 < U.heap.size ∨ X.heap.size ≤ g4 := by
    rcases hat4 with e | e
    · have := hk.down.lt (.inl e); omega
    · omega
  have hlow : ∀ b, rowsS v8 k gd b ∨ rowsS v9 k ga b → b < U.heap.size := fun b h => by
    rcases h with h | h
    · exact (hk.down.lt h).2
    · exact (hk.across.lt h).2
  have h4 := h3.push_down (own_weak (hown3.alloc _) (by omega)) (fun h => by have := hlow _ (.inl h); omega) (fun h => by have := hlow _ (.inr h); omega) hown4 hg4 (by rcases hat4 with e | e; exact .inl e; exact .inr (by simp; omega))
  have G6 : V.heap.size ≤ g6 ∧ (g6 < X.heap.size ∨ w4.heap.size ≤ g6) := by
    rcases hat6 with e | e
    · have := lb g6 e; omega
    · omega
  have keep : ∀ b, b < w4.heap.size → vb.ownBlock ≠ some b → (w6.alloc o7).heap[b]? = w4.heap[b]? := fun b hb hn => by
    rw [Below.heap_alloc w6 o7 b (by omega), hg6.block b (by simp; omega) (fun e => hn e.symm), Below.heap_alloc w5 o6 b (by omega), hb5.block b hb]
  have h6 : LookL W.heap.size (p.rows.length + 1) W (w6.alloc o7) p q (k + 1) k _ v9 _ _ ga ca := h4.same
    (fun b hb => keep b (h4.down.lt hb).2 fun e => by
      have := lb b e
      rcases RowsM.S_push hb with e' | e' | e'
      · omega
      · omega
      · have := hlow b (.inl e'); omega)
    (fun b hb => keep b (h4.across.lt hb).2 fun e => by have := lb b e; have := hlow b (.inr hb); omega)
    (((h4.below.trans (hb5.mono h4.below.size)).alloc (by have := h4.below.size; omega) o6 |>.grown hg6 (by have := h4.below.size; simp; omega) fun j e => by have := lb j e; omega).alloc (by have := h4.below.size; omega) o7)
  have h7 := h6.push_across (own_weak (hown6.alloc _) (by omega)) (fun h => by
      rcases RowsM.S_push h with e' | e' | e'
      · omega
      · omega
      · have := hlow _ (.inl e'); omega) (fun h => by have := hlow _ (.inr h); omega) hown7 hg7 (by rcases hat7 with e | e; exact .inl e; exact .inr e)
  exact ⟨_, _, _, _, h7⟩
/-- The gains as far as they have come. -/
def gainL (p : PG) (q : List Nat) (N j : Nat) (v : Int) : List Int := (List.range N).map fun i => if i < j then gk p q i p.rows.length else if i = j then v else 0
theorem gainL_zero (p : PG) (q : List Nat) (N : Nat) : List.replicate N (0 : Int) = gainL p q N 0 0 := by
  refine List.ext_getElem (by simp [gainL]) fun i h1 h2 => ?_
  simp [gainL]
theorem gainL_set {p : PG} {q : List Nat} {N j : Nat} {u v : Int} : (gainL p q N j u).set j v = gainL p q N j v := by
  refine List.ext_getElem (by simp [gainL]) fun i h1 h2 => ?_
  rw [List.getElem_set]
  simp only [gainL, List.getElem_map, List.getElem_range]
  by_cases e : j = i
  · subst e; simp
  · rw [if_neg e]; split; rfl; rw [if_neg (by omega), if_neg (by omega)]
theorem gainL_succ {p : PG} {q : List Nat} {N j : Nat} : gainL p q N j (gk p q j p.rows.length) = gainL p q N (j + 1) 0 := by
  unfold gainL
  apply List.map_congr_left
  intro i _
  by_cases e : i = j
  · subst e; simp
  · by_cases e2 : i < j
    · rw [if_pos e2, if_pos (by omega)]
    · rw [if_neg e2, if_neg e, if_neg (by omega)]; split <;> rfl
theorem gainL_at {p : PG} {q : List Nat} {N j : Nat} {v : Int} (h : j < N) : ((gainL p q N j v).map (Value.int .i64))[j]? = some (.int .i64 v) := by
  simp [gainL, h]
theorem gainL_end (p : PG) (q : List Nat) : gainL p q (p.costs.length + p.rows.length) (p.costs.length + p.rows.length) 0 = gall p q := by
  unfold gainL gall
  apply List.map_congr_left
  intro i hi
  have : i < p.costs.length + p.rows.length := by simpa using hi
  rw [if_pos this]
theorem putAll_none (q : List Nat) (v : Nat → Int) (N : Nat) : List.replicate N (0 : Int) = putAll q v N 0 := by simp [putAll]
theorem map_set_int (l : List Int) (k : Nat) (z : Int) : (l.map (Value.int .i64)).set k (.int .i64 z) = (l.set k z).map (Value.int .i64) := by rw [List.map_set]
theorem map_at_int {l : List Int} {k : Nat} (h : k < l.length) : (l.map (Value.int .i64))[k]? = some (.int .i64 (l.getD k 0)) := by simp [List.getD, List.getElem?_eq_getElem h]
theorem own_far {w : World} {base n : Nat} {e : TypeId} {v : Value} {xs : List Value} (h : w.ownsRow base e 1 v n xs) {p : Addr} (u : Value) (hp : v.ownBlock ≠ some p.block) : (w.setCell p u).ownsRow base e 1 v n xs :=
  own_same h fun b hb => Below.heap_setCell _ _ _ _ fun q => hp (by rw [hb, q])
theorem Rd.getD_at {w : World} {A : Option Addr} {c : Nat} {l : List Int} (h : Rd w A c l) {k : Nat} (hk : k < l.length) : ∃ ad, A = some ad ∧ w.cell? (ad.add k) = some (.int .i64 (l.getD k 0)) := by
  obtain ⟨ad, e, hc⟩ := h.at_ hk
  exact ⟨ad, e, by rw [hc]; simp [List.getD, List.getElem?_eq_getElem hk]⟩
theorem Rd.same {w w' : World} {A : Option Addr} {c : Nat} {l : List Int} (h : Rd w A c l) (hk : ∀ ad, A = some ad → ad.block < w.heap.size → w'.heap[ad.block]? = w.heap[ad.block]?) : Rd w' A c l :=
  ⟨h.le, h.cap, h.small, fun hl => by
    obtain ⟨ad, e, hc⟩ := h.cells hl
    have h0 := World.block_lt_of_cell? _ _ (hc 0 _ (List.getElem?_eq_getElem hl))
    rw [block_add] at h0
    exact ⟨ad, e, fun j u hu => (World.cell?_of_block (by rw [block_add]; exact hk ad e h0)).trans (hc j u hu)⟩⟩
theorem row_succ (f : Nat → Int) (k : Nat) : ((List.range k).map fun j => Value.int .i64 (f j)) ++ [Value.int .i64 (f k)] = (List.range (k + 1)).map fun j => Value.int .i64 (f j) := by rw [List.range_succ, List.map_append]; rfl

/-- The first k of N numbers, 0 behind them. -/
def partL (f : Nat → Int) (N k : Nat) : List Int := (List.range N).map fun i => if i < k then f i else 0
theorem partL_zero (f : Nat → Int) (N : Nat) : List.replicate N (0 : Int) = partL f N 0 := by
  refine List.ext_getElem (by simp [partL]) fun i h1 h2 => ?_
  simp [partL]
theorem partL_set (f : Nat → Int) (N k : Nat) : (partL f N k).set k (f k) = partL f N (k + 1) := by
  refine List.ext_getElem (by simp [partL]) fun i h1 h2 => ?_
  rw [List.getElem_set]
  simp only [partL, List.getElem_map, List.getElem_range]
  by_cases e : k = i
  · subst e; simp
  · rw [if_neg e]; split; rw [if_pos (by omega)]; rw [if_neg (by omega)]
theorem partL_end (f : Nat → Int) (N : Nat) : partL f N N = (List.range N).map f := by
  unfold partL
  apply List.map_congr_left
  intro i hi
  rw [if_pos (by simpa using hi)]
theorem length_partL (f : Nat → Int) (N k : Nat) : (partL f N k).length = N := by simp [partL]
end Go.Proofs.Ytjcdkbalhleeeab
