/-
  Words for memory: a slice of rows that the call makes, whose slices lie elsewhere. No condition.
-/
import Derived.Test.YtjcdkbalhleeeabDoorRowA
namespace Go.Proofs.YtjcdkbalhleeeabDoor
open Go.RowKit

theorem Rd.sameW {w w' : World} {A : Option Addr} {c : Nat} {l : List Int} (h : Rd w A c l) (hk : ∀ ad, A = some ad → ad.block < w.heap.size → w'.heap[ad.block]? = w.heap[ad.block]?) : Rd w' A c l :=
  ⟨h.le, h.cap, h.small, fun hl => by
    obtain ⟨ad, e, hc⟩ := h.cells hl
    have h0 := World.block_lt_of_cell? _ _ (hc 0 _ (List.getElem?_eq_getElem hl))
    rw [block_add] at h0
    exact ⟨ad, e, fun j u hu => (World.cell?_of_block (by rw [block_add]; exact hk ad e h0)).trans (hc j u hu)⟩⟩
/-- A row's slice's address and room, and the row. -/
abbrev RE := Option Addr × Nat × (List Int × Int)
def reCells (es : List RE) : List Value := es.flatMap fun e => [.slice e.1 e.2.2.1.length e.2.1, .int .i64 e.2.2.2]
theorem reCells_len (es : List RE) : (reCells es).length = es.length * 2 := by
  induction es with
  | nil => rfl
  | cons e es ih => simp only [reCells, List.flatMap_cons, List.length_append, List.length_cons] at ih ⊢; rw [ih]; simp; omega
theorem reCells_snoc (es : List RE) (e : RE) : reCells (es ++ [e]) = reCells es ++ [.slice e.1 e.2.2.1.length e.2.1, .int .i64 e.2.2.2] := by simp [reCells]
theorem reCells_at : ∀ (es : List RE) {i : Nat} (h : i < es.length), (reCells es)[i * 2]? = some (.slice es[i].1 es[i].2.2.1.length es[i].2.1) ∧ (reCells es)[i * 2 + 1]? = some (.int .i64 es[i].2.2.2)
  | [], i, h => by simp at h
  | e :: es, 0, h => by simp [reCells]
  | e :: es, i + 1, h => by
    have := reCells_at es (i := i) (by simpa using h)
    have e1 : (i + 1) * 2 = i * 2 + 2 := by omega
    rw [e1]
    simp only [reCells, List.flatMap_cons] at this ⊢
    rw [List.getElem?_append_right (by simp), List.getElem?_append_right (by simp)]
    simpa using this
/-- Rows that the call has made. -/
structure RwB (w : World) (base : Nat) (v : Value) (es : List RE) : Prop where
  own : w.ownsRow base 50 2 v es.length (reCells es)
  rd : ∀ e ∈ es, Rd w e.1 e.2.1 e.2.2.1
  ne : ∀ e ∈ es, ∀ ad, e.1 = some ad → v.ownBlock ≠ some ad.block
  lt : ∀ e ∈ es, ∀ ad, e.1 = some ad → ad.block < w.heap.size
  ge : ∀ e ∈ es, ∀ ad, e.1 = some ad → base ≤ ad.block
section
variable {w w' : World} {base : Nat} {v : Value} {es : List RE}
theorem RwB.nil (w : World) (base : Nat) : RwB w base (.slice none 0 0) [] := ⟨World.ownsRow_nil _ _ _ _, by simp, by simp, by simp, by simp⟩
theorem RwB.below (h : RwB w base v es) (hb : Below w.heap.size w w') : RwB w' base v es :=
  ⟨own_below h.own hb, fun e he => (h.rd e he).below hb, h.ne, fun e he ad ea => Nat.lt_of_lt_of_le (h.lt e he ad ea) hb.size, h.ge⟩
/-- Another cell's turn. -/
theorem RwB.same (h : RwB w base v es) (hs : ∀ b, (v.ownBlock = some b ∨ ∃ e ∈ es, ∃ ad, e.1 = some ad ∧ ad.block = b) → w'.heap[b]? = w.heap[b]?) (hz : w.heap.size ≤ w'.heap.size) : RwB w' base v es := by
  refine ⟨?_, fun e he => (h.rd e he).sameW fun ad ea _ => hs _ (Or.inr ⟨e, he, ad, ea, rfl⟩), h.ne, fun e he ad ea => Nat.lt_of_lt_of_le (h.lt e he ad ea) hz, h.ge⟩
  rcases h.own with ⟨h1, h2⟩
  refine ⟨h1, ?_⟩
  rcases h2 with h2 | ⟨g, cap, cur, e1, e2, e3, e4⟩
  · exact Or.inl h2
  · exact Or.inr ⟨g, cap, cur, e1, e2, (hs g (Or.inl (by rw [e1]; rfl))).trans e3, e4⟩
/-- One more. -/
theorem RwB.push (h : RwB w base v es) {A : Option Addr} {c o cap : Nat} {l : List Int} {m : Int} (hr : Rd w A c l) (hn : ∀ ad, A = some ad → v.ownBlock ≠ some ad.block) (hlt : ∀ ad, A = some ad → ad.block < w.heap.size) (hge : ∀ ad, A = some ad → base ≤ ad.block)
    (hown : w'.ownsRow base 50 2 (.slice (some ⟨o, 0, none⟩) (es.length + 1) cap) (es.length + 1) (reCells es ++ [.slice A l.length c, .int .i64 m]))
    (hg : w.grownBy w' v.ownBlock) (hat : v.ownBlock = some o ∨ o = w.heap.size) :
    RwB w' base (.slice (some ⟨o, 0, none⟩) (es.length + 1) cap) (es ++ [(A, c, (l, m))]) := by
  have hz := hg.size
  have key : ∀ (A' : Option Addr) (c' : Nat) (l' : List Int), Rd w A' c' l' → (∀ ad, A' = some ad → v.ownBlock ≠ some ad.block) → (∀ ad, A' = some ad → ad.block < w.heap.size) →
      Rd w' A' c' l' ∧ (∀ ad, A' = some ad → (Value.slice (some ⟨o, 0, none⟩) (es.length + 1) cap).ownBlock ≠ some ad.block) ∧ (∀ ad, A' = some ad → ad.block < w'.heap.size) := by
    intro A' c' l' h1 h2 h3
    refine ⟨h1.sameW fun ad e hl => hg.block _ hl fun q => h2 ad e q.symm, fun ad e q => ?_, fun ad e => Nat.lt_of_lt_of_le (h3 ad e) hz⟩
    have q' : o = ad.block := by simpa [Value.ownBlock] using q
    rcases hat with hat | hat
    · exact h2 ad e (by rw [hat, q'])
    · have := h3 ad e; omega
  have hall : ∀ e ∈ es ++ [(A, c, (l, m))], Rd w e.1 e.2.1 e.2.2.1 ∧ (∀ ad, e.1 = some ad → v.ownBlock ≠ some ad.block) ∧ (∀ ad, e.1 = some ad → ad.block < w.heap.size) := by
    intro e he
    rcases List.mem_append.1 he with he | he
    · exact ⟨h.rd e he, h.ne e he, h.lt e he⟩
    · simp at he; subst he; exact ⟨hr, hn, hlt⟩
  refine ⟨by rw [reCells_snoc, List.length_append]; exact hown, fun e he => ?_, fun e he => ?_, fun e he => ?_, fun e he => ?_⟩
  · obtain ⟨a, b, d⟩ := hall e he; exact (key _ _ _ a b d).1
  · obtain ⟨a, b, d⟩ := hall e he; exact (key _ _ _ a b d).2.1
  · obtain ⟨a, b, d⟩ := hall e he; exact (key _ _ _ a b d).2.2
  · rcases List.mem_append.1 he with he | he
    · exact h.ge e he
    · simp at he; subst he; exact hge
/-- They read as rows. -/
theorem RwB.read (h : RwB w base v es) (hk : es.length ≤ 4398046511104) : ∃ A c, v = .slice A es.length c ∧ Rw w A c (es.map (·.2.2)) := by
  rcases h.own.2 with ⟨rfl, h0⟩ | ⟨g, cap, cur, rfl, hb, hg, h1, h2, _⟩
  · have : es = [] := List.eq_nil_of_length_eq_zero h0
    subst this
    exact ⟨none, 0, rfl, ⟨by simp, by omega, by simp, fun h => by simp at h⟩⟩
  · refine ⟨_, cap, rfl, by rw [List.length_map]; exact h1, by unfold maxLen at h2; omega, by rw [List.length_map]; omega, fun _ => ⟨_, rfl, fun j hj => ?_⟩⟩
    have hj' : j < es.length := by simpa using hj
    obtain ⟨c1, c2⟩ := reCells_at es hj'
    have e1 : ∀ q, (⟨g, 0, none⟩ : Addr).add q = ⟨g, q, none⟩ := fun q => by unfold Addr.add; split <;> simp_all
    have d1 := h.own.cells (g := g) rfl (j * 2) _ c1
    have d2 := h.own.cells (g := g) rfl (j * 2 + 1) _ c2
    rw [e1] at d1 d2
    rw [e1, List.getElem_map]
    exact ⟨_, _, d1, d2, h.rd _ (List.getElem_mem hj')⟩
end
theorem list_appW {ops : Array Oper} {rest : List Oper} {o : Oper} {a : Act} {w : World} {Q : Exit → Act → World → Prop} (hgd : o.guard = none) (s x : Operand)
    (ho : o.op = .call { callee := .builtin .append, args := #[s, x], argTypes := #[23, 23] })
    (base : Nat) (v : Value) (n : Nat) (xs : List Value) (u1 u2 : Value) (hs : a.eval s = v) (hown : w.ownsRow base 50 2 v n xs)
    (b c : Nat) (hx : a.eval x = .slice (some ⟨b, 0, none⟩) 1 c) (hb : Blk w b 50 #[u1, u2]) (h1 : u1.oneCell' = true) (h2 : u2.oneCell' = true)
    (hn : n ≤ 2199023255552) (hbase : base ≤ w.heap.size)
    (h : ∀ g cap w', w'.ownsRow base 50 2 (.slice (some ⟨g, 0, none⟩) (n + 1) cap) (n + 1) (xs ++ [u1, u2]) → w.grownBy w' v.ownBlock → (v.ownBlock = some g ∨ g = w.heap.size) → g < w'.heap.size → wpList Tryd.prog ops Q rest (a.put o.dst (.slice (some ⟨g, 0, none⟩) (n + 1) cap)) w') :
    wpList Tryd.prog ops Q (o :: rest) a w := by
  obtain ⟨i, hi, hz0, hz1, hz2⟩ := info_parts inf_rowT
  exact wpList_append_lies w hgd s x 23 ho base 50 i _ 2 32 und_rowsT hi hz0 hz1 hz2 rfl (by omega) v n xs hs hown ⟨b, 0, none⟩ 1 c [u1, u2] hx rfl (news2 hb) (by simp [h1, h2]) (by omega) (by unfold maxLen; omega) (by omega) hbase _ rfl h
theorem step_appW {ops : Array Oper} {K : Act → World → Prop} {E' : Prop} {o : Oper} {a : Act} {w : World} {Q : Exit → Act → World → Prop} (hgd : o.guard = none) (s x : Operand)
    (ho : o.op = .call { callee := .builtin .append, args := #[s, x], argTypes := #[23, 23] })
    (base : Nat) (v : Value) (n : Nat) (xs : List Value) (u1 u2 : Value) (hs : a.eval s = v) (hown : w.ownsRow base 50 2 v n xs)
    (b c : Nat) (hx : a.eval x = .slice (some ⟨b, 0, none⟩) 1 c) (hb : Blk w b 50 #[u1, u2]) (h1 : u1.oneCell' = true) (h2 : u2.oneCell' = true)
    (hn : n ≤ 2199023255552) (hbase : base ≤ w.heap.size)
    (h : ∀ g cap w', w'.ownsRow base 50 2 (.slice (some ⟨g, 0, none⟩) (n + 1) cap) (n + 1) (xs ++ [u1, u2]) → w.grownBy w' v.ownBlock → (v.ownBlock = some g ∨ g = w.heap.size) → g < w'.heap.size → K (a.put o.dst (.slice (some ⟨g, 0, none⟩) (n + 1) cap)) w') :
    if Region.wanted o (yielded ops a.tmps) = true then Oper.wp Tryd.prog o a w K Q else E' := by
  obtain ⟨i, hi, hz0, hz1, hz2⟩ := info_parts inf_rowT
  exact step_append_lies w hgd s x 23 ho base 50 i _ 2 32 und_rowsT hi hz0 hz1 hz2 rfl (by omega) v n xs hs hown ⟨b, 0, none⟩ 1 c [u1, u2] hx rfl (news2 hb) (by simp [h1, h2]) (by omega) (by unfold maxLen; omega) (by omega) hbase _ rfl h
/-- A program under way, in the box b: what it has lies at base and beyond. -/
structure PgW (w : World) (b base : Nat) (A : Option Addr) (c : Nat) (v : Value) (es : List RE) (q : PG) : Prop where
  blk : Blk w b 25 #[.slice A q.costs.length c, v]
  below : b < base
  rd : Rd w A c q.costs
  ge : ∀ ad, A = some ad → base ≤ ad.block
  lt : ∀ ad, A = some ad → ad.block < w.heap.size
  ne : ∀ ad, A = some ad → v.ownBlock ≠ some ad.block
  rows : RwB w base v es
  eq : es.map (·.2.2) = q.rows
section
variable {w w' : World} {b base c : Nat} {A : Option Addr} {v : Value} {es : List RE} {q : PG}
theorem PgW.start (h : Blk w b 25 #[.slice none 0 0, .slice none 0 0]) (hb : b < base) : PgW w b base none 0 (.slice none 0 0) [] ⟨[], []⟩ :=
  ⟨h, hb, Rd.nil w, by simp, by simp, by simp, RwB.nil w base, rfl⟩
theorem PgW.next (h : PgW w b base A c v es q) (hb : Below w.heap.size w w') : PgW w' b base A c v es q :=
  ⟨h.blk.next hb, h.below, h.rd.below hb, h.ge, fun ad e => Nat.lt_of_lt_of_le (h.lt ad e) hb.size, h.ne, h.rows.below hb, h.eq⟩
/-- Other costs, in new memory. -/
theorem PgW.costs {w0 : World} (h : PgW w0 b base A c v es q) (hb : Below w0.heap.size w0 w) (hz : base ≤ w0.heap.size) {A' : Option Addr} {c' : Nat} {l : List Int} (hr : Rd w A' c' l) (hA : ∀ ad, A' = some ad → w0.heap.size ≤ ad.block ∧ ad.block < w.heap.size) :
    PgW (w.setCell ⟨b, 0, none⟩ (.slice A' l.length c')) b base A' c' v es ⟨l, q.rows⟩ := by
  have h1 := h.next hb
  have hs : ∀ g, base ≤ g → (w.setCell ⟨b, 0, none⟩ (.slice A' l.length c')).heap[g]? = w.heap[g]? := fun g hg => Below.heap_setCell w _ _ g (by have := h.below; show g ≠ b; omega)
  have hvb : ∀ g, v.ownBlock = some g → base ≤ g ∧ g < w0.heap.size := fun g e => h.rows.own.lt g e
  refine ⟨h1.blk.set0 0 _, h.below, hr.sameW fun ad e hl => hs _ (by have := hA ad e; omega), fun ad e => by have := hA ad e; omega, fun ad e => by simpa using (hA ad e).2, fun ad e q' => ?_, h1.rows.same ?_ (by simp), h.eq⟩
  · have := hvb _ q'; have := hA ad e; omega
  · rintro g (e | ⟨x, hx, ad, e, rfl⟩)
    · exact hs g (hvb g e).1
    · exact hs _ (h.rows.ge x hx ad e)
/-- One row more, whose slice is new memory. -/
theorem PgW.row {w0 w5 : World} (h : PgW w0 b base A c v es q) (hb : Below w0.heap.size w0 w) (hz : base ≤ w0.heap.size) {A' : Option Addr} {c' o cap : Nat} {l : List Int} {m : Int} (hr : Rd w A' c' l) (hA : ∀ ad, A' = some ad → w0.heap.size ≤ ad.block ∧ ad.block < w.heap.size)
    (hown : w5.ownsRow base 50 2 (.slice (some ⟨o, 0, none⟩) (es.length + 1) cap) (es.length + 1) (reCells es ++ [.slice A' l.length c', .int .i64 m]))
    (hg : w.grownBy w5 v.ownBlock) (hat : v.ownBlock = some o ∨ o = w.heap.size) :
    PgW (w5.setCell ⟨b, 1, none⟩ (.slice (some ⟨o, 0, none⟩) (es.length + 1) cap)) b base A c (.slice (some ⟨o, 0, none⟩) (es.length + 1) cap) (es ++ [(A', c', (l, m))]) ⟨q.costs, q.rows ++ [(l, m)]⟩ := by
  have h1 := h.next hb
  have hvb : ∀ g, v.ownBlock = some g → base ≤ g ∧ g < w0.heap.size := fun g e => h.rows.own.lt g e
  have hbz := hb.size
  have hp := h1.rows.push (w' := w5) (m := m) hr (fun ad e q' => by have := hvb _ q'; have := hA ad e; omega) (fun ad e => (hA ad e).2) (fun ad e => by have := hA ad e; omega) hown hg hat
  have hs : ∀ g, base ≤ g → (w5.setCell ⟨b, 1, none⟩ (.slice (some ⟨o, 0, none⟩) (es.length + 1) cap)).heap[g]? = w5.heap[g]? := fun g hg => Below.heap_setCell w5 _ _ g (by have := h.below; show g ≠ b; omega)
  have hkeep : ∀ ad, A = some ad → w5.heap[ad.block]? = w.heap[ad.block]? := fun ad e => hg.block _ (h1.lt ad e) fun q' => h1.ne ad e q'.symm
  have hbl : Blk w5 b 25 #[.slice A q.costs.length c, v] := (hg.block b (h1.blk.lt) (fun q' => by have := hvb _ q'.symm; have := h.below; omega)).trans h1.blk
  have hz5 := hg.size
  refine ⟨hbl.set0 1 _, h.below, (h1.rd.sameW fun ad e _ => hkeep ad e).sameW fun ad e _ => hs _ (h.ge ad e), h.ge, fun ad e => by have := h1.lt ad e; simp; omega, fun ad e q' => ?_, hp.same ?_ (by simp), by rw [List.map_append, h.eq]; rfl⟩
  · have q2 : o = ad.block := by simpa [Value.ownBlock] using q'
    rcases hat with hat | hat
    · exact h1.ne ad e (by rw [hat, q2])
    · have := h1.lt ad e; omega
  · rintro g (e | ⟨x, hx, ad, e, rfl⟩)
    · exact hs g (hp.own.lt g e).1
    · exact hs _ (hp.ge x hx ad e)
/-- Another box's turn. -/
theorem PgW.far (h : PgW w b base A c v es q) (p : Addr) (u : Value) (hp : p.block < base) (hne : p.block ≠ b) : PgW (w.setCell p u) b base A c v es q := by
  have hs : ∀ g, base ≤ g → (w.setCell p u).heap[g]? = w.heap[g]? := fun g hg => Below.heap_setCell w _ _ g (by omega)
  refine ⟨h.blk.far _ (fun e => hne e.symm), h.below, h.rd.sameW fun ad e _ => hs _ (h.ge ad e), h.ge, fun ad e => by simpa using h.lt ad e, h.ne, h.rows.same ?_ (by simp), h.eq⟩
  rintro g (e | ⟨x, hx, ad, e, rfl⟩)
  · exact hs g (h.rows.own.lt g e).1
  · exact hs _ (h.rows.ge x hx ad e)
theorem PgW.read (h : PgW w b base A c v es q) (hk : es.length ≤ 4398046511104) : ∃ A2 c2, v = .slice A2 q.rows.length c2 ∧ Pg w A c A2 c2 q := by
  obtain ⟨A2, c2, rfl, hr⟩ := h.rows.read hk
  rw [h.eq] at hr
  refine ⟨A2, c2, ?_, h.rd, hr⟩
  rw [← h.eq, List.length_map]
end
end Go.Proofs.YtjcdkbalhleeeabDoor
