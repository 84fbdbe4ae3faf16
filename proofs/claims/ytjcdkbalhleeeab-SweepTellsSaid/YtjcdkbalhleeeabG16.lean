/-
  Contracts of functions and plain laws that later parts of the proof use. The conditions stand in each theorem.
-/
import Derived.Test.YtjcdkbalhleeeabG11
import Derived.Test.YtjcdkbalhleeeabG15
namespace Go.Proofs.Ytjcdkbalhleeeab
open Go.RowKit

/-- A corner and an answer are handed back; nothing that was there has turned. -/
def RetCb (w : World) (c : CO) (b : Bool) (e : Ending) (w' : World) : Prop :=
  ∃ X cx Y cy G cg, e = .returned (.tuple #[.agg #[.slice X c.xs.length cx, .int .i64 c.xd, .slice Y c.ys.length cy, .int .i64 c.yd, .slice G c.gs.length cg, .int .i64 c.gd], .bool b]) ∧
    Rd w' X cx c.xs ∧ Rd w' Y cy c.ys ∧ Rd w' G cg c.gs ∧ Below w.heap.size w w'
theorem RetCb.none {w w' : World} (b : Bool) (hb : Below w.heap.size w w') : RetCb w ⟨[], 0, [], 0, [], 0⟩ b (.returned (.tuple #[.agg #[.slice none 0 0, .int .i64 0, .slice none 0 0, .int .i64 0, .slice none 0 0, .int .i64 0], .bool b])) w' :=
  ⟨Option.none, 0, Option.none, 0, Option.none, 0, rfl, Rd.nil _, Rd.nil _, Rd.nil _, hb⟩
/-- The same, and the gains lie in new memory. -/
def RetCbN (w : World) (c : CO) (b : Bool) (e : Ending) (w' : World) : Prop :=
  ∃ X cx Y cy G cg, e = .returned (.tuple #[.agg #[.slice X c.xs.length cx, .int .i64 c.xd, .slice Y c.ys.length cy, .int .i64 c.yd, .slice G c.gs.length cg, .int .i64 c.gd], .bool b]) ∧
    Rd w' X cx c.xs ∧ Rd w' Y cy c.ys ∧ Rd w' G cg c.gs ∧ Below w.heap.size w w' ∧ ∀ ad, G = some ad → w.heap.size ≤ ad.block
theorem RetCbN.cb {w w' : World} {c : CO} {b : Bool} {e : Ending} (h : RetCbN w c b e w') : RetCb w c b e w' := by
  obtain ⟨X, cx, Y, cy, G, cg, h1, h2, h3, h4, h5, _⟩ := h
  exact ⟨X, cx, Y, cy, G, cg, h1, h2, h3, h4, h5⟩
theorem RetCbN.none {w w' : World} (b : Bool) (hb : Below w.heap.size w w') : RetCbN w ⟨[], 0, [], 0, [], 0⟩ b (.returned (.tuple #[.agg #[.slice none 0 0, .int .i64 0, .slice none 0 0, .int .i64 0, .slice none 0 0, .int .i64 0], .bool b])) w' :=
  ⟨Option.none, 0, Option.none, 0, Option.none, 0, rfl, Rd.nil _, Rd.nil _, Rd.nil _, hb, fun ad e => by cases e⟩
theorem LookL.far {B n : Nat} {W U : World} {p : PG} {q : List Nat} {kd ka : Nat} {v8 v9 : Value} {gd cd ga ca : Nat → Nat} (h : LookL B n W U p q kd ka v8 v9 gd cd ga ca) {a : Addr} (u : Value) (ha : a.block < B) (hw : W.heap.size ≤ a.block) :
    LookL B n W (U.setCell a u) p q kd ka v8 v9 gd cd ga ca :=
  h.same (fun b hb => Below.heap_setCell _ _ _ _ fun e => by have := (h.down.lt hb).1; omega) (fun b hb => Below.heap_setCell _ _ _ _ fun e => by have := (h.across.lt hb).1; omega) (h.below.setCell hw _)
/-- Two rows more, both made and filled in this round. -/
theorem look_round3 {W U X w3 w4 : World} {B n : Nat} {p : PG} {q : List Nat} {k : Nat} {v8 v9 : Value} {gd cd ga ca : Nat → Nat} {ra rb g3 cap3 g4 cap4 : Nat} {o3 o4 : Obj}
    (hk : LookL B n W U p q k k v8 v9 gd cd ga ca) (hUX : Below U.heap.size U X) (hB : B ≤ U.heap.size)
    (hra : X.ownsRow U.heap.size 2 1 (.slice (some ⟨ra, 0, none⟩) n n) n ((List.range n).map fun j => Value.int .i64 (matD p q k j)))
    (hrb : X.ownsRow U.heap.size 2 1 (.slice (some ⟨rb, 0, none⟩) n n) n ((List.range n).map fun j => Value.int .i64 (matU p q k j))) (hab : ra ≠ rb)
    (hg3 : (X.alloc o3).grownBy w3 v8.ownBlock) (hat3 : v8.ownBlock = some g3 ∨ g3 = (X.alloc o3).heap.size)
    (hown3 : w3.ownsRow B 22 1 (.slice (some ⟨g3, 0, none⟩) (k + 1) cap3) (k + 1) (((List.range k).map fun i => Value.slice (some ⟨gd i, 0, none⟩) n (cd i)) ++ [.slice (some ⟨ra, 0, none⟩) n n]))
    (hg4 : (w3.alloc o4).grownBy w4 v9.ownBlock) (hat4 : v9.ownBlock = some g4 ∨ g4 = (w3.alloc o4).heap.size)
    (hown4 : w4.ownsRow B 22 1 (.slice (some ⟨g4, 0, none⟩) (k + 1) cap4) (k + 1) (((List.range k).map fun i => Value.slice (some ⟨ga i, 0, none⟩) n (ca i)) ++ [.slice (some ⟨rb, 0, none⟩) n n])) :
    LookR B n W w4 p q (k + 1) (.slice (some ⟨g3, 0, none⟩) (k + 1) cap3) (.slice (some ⟨g4, 0, none⟩) (k + 1) cap4) := by
  have la := hra.lt ra rfl
  have lb := hrb.lt rb rfl
  have z3 := hg3.size
  have hz3 : X.heap.size + 1 ≤ w3.heap.size := by simpa using z3
  have hlow : ∀ b, rowsS v8 k gd b ∨ rowsS v9 k ga b → b < U.heap.size := fun b h => by
    rcases h with h | h
    · exact (hk.down.lt h).2
    · exact (hk.across.lt h).2
  have h1 := (hk.to hUX).to ((Below.refl _ X).alloc (Nat.le_refl _) o3)
  have h2 := h1.push_down (own_weak (hra.alloc _) (by omega)) (fun h => by have := hlow _ (.inl h); omega) (fun h => by have := hlow _ (.inr h); omega) hown3 hg3 hat3
  have h3 := h2.to ((Below.refl _ w3).alloc (Nat.le_refl _) o4)
  have hrb3 : (w3.alloc o4).ownsRow B 2 1 (.slice (some ⟨rb, 0, none⟩) n n) n ((List.range n).map fun j => Value.int .i64 (matU p q k j)) := by
    refine own_weak (own_same hrb fun b e => ?_) hB
    have e' : rb = b := Option.some.inj e
    subst e'
    rw [Below.heap_alloc w3 o4 rb (by omega), hg3.block rb (by simp; omega) (fun q => by have := hlow rb (.inl (.inl q.symm)); omega), Below.heap_alloc X o3 rb lb.2]
  have h4 := h3.push_across hrb3 (fun h => by
      rcases RowsM.S_push h with e | e | e
      · rcases hat3 with q | q
        · have := hlow g3 (.inl (.inl q)); omega
        · simp at q; omega
      · exact hab e.symm
      · have := hlow _ (.inl e); omega) (fun h => by have := hlow _ (.inr h); omega) hown4 hg4 hat4
  exact ⟨_, _, _, _, h4⟩
/-- put, of a square. -/
def RetRn (w : World) (m : Nat) (rs : List (List Int)) (e : Ending) (w' : World) : Prop := ∃ A c, e = .returned (.slice A m c) ∧ Rm w' A c rs ∧ Below w.heap.size w w'
theorem sq_len (A : Nat → Nat → Int) (m : Nat) : (sq A m).length = m := by simp [sq]
theorem sq_row (A : Nat → Nat → Int) (m : Nat) : ∀ r ∈ sq A m, r.length = m := by
  intro r hr
  simp only [sq, List.mem_map] at hr
  obtain ⟨i, _, rfl⟩ := hr
  simp
theorem putF_len (l : List (List Int)) (k : Nat) (col : List Int) : (putF l k col).length = l.length := by simp [putF]
theorem putF_row {l : List (List Int)} {k m : Nat} {col : List Int} (h : ∀ r ∈ l, r.length = m) : ∀ r ∈ putF l k col, r.length = m := by
  intro r hr
  simp only [putF, List.mem_map, List.mem_range] at hr
  obtain ⟨i, hi, rfl⟩ := hr
  rw [List.length_set, show l.getD i [] = l[i] by simp [List.getD, List.getElem?_eq_getElem hi]]
  exact h _ (List.getElem_mem hi)
theorem ref3_putS (M : Nat → Nat → Int) (m k : Nat) (A : Option Addr) (c : Nat) (C : Option Addr) (cc : Nat) (f : Nat → Int) (w : World) (h1 : 1 ≤ m) (h4 : m ≤ 4) (hk : k < m) (hr : Rm w A c (sq M m)) (hc : Rd w C cc ((List.range m).map f)) :
    Calls Try.prog 86 #[.slice A m c, .int .i64 k, .slice C m cc] w (RetRn w m (putF (sq M m) k ((List.range m).map f))) := by
  have := ref3_put (sq M m) A c k C cc ((List.range m).map f) m w h1 h4 (sq_len M m) (sq_row M m) hk (by simp) hr hc
  rw [show ((List.range m).map f).length = m by simp] at this
  refine this.mono fun e w' ⟨A', c', e1, e2, e3⟩ => ⟨A', c', ?_, e2, e3⟩
  rw [e1, putF_len, sq_len]
theorem ref3_detS (M : Nat → Nat → Int) (m k : Nat) (A : Option Addr) (c : Nat) (f : Nat → Int) (w : World) (h4 : m ≤ 4) (hs : Small M m) (hf : ∀ i, i < m → f i = M i m) (hr : Rm w A c (putF (sq M m) k ((List.range m).map f))) :
    Calls Try.prog 85 #[.slice A m c] w fun e w' => e = .returned (.int .i64 (dtp M m k m)) ∧ Below w.heap.size w w' := by
  have hc : ∀ i, i < m → ((List.range m).map f).getD i 0 = M i m := fun i hi => by rw [getD_map_range hi]; exact hf i hi
  rw [← putF_sq M ((List.range m).map f) (k := k) hc]
  refine ref3_det m _ A c w h4 (by rw [putF_len, sq_len]) (putF_row (sq_row M m)) (putF_small (sq_small hs) ?_) hr
  rw [smallB_iff]
  intro n hn
  simp only [List.mem_map, List.mem_range] at hn
  obtain ⟨i, hi, rfl⟩ := hn
  rw [hf i hi]
  exact (hs i m).1
theorem map_partL_end (f : Nat → Int) (N : Nat) : (partL f N N).map (Value.int .i64) = (List.range N).map fun j => Value.int .i64 (f j) := by rw [partL_end, List.map_map]; rfl

set_option maxRecDepth 100000 in
set_option maxHeartbeats 4000000 in
theorem ref3_LookN (A : Option Addr) (c : Nat) (A2 : Option Addr) (c2 : Nat) (p : PG) (L : Option Addr) (l : List Int) (cl : Nat) (w : World) (hp : Pg w A c A2 c2 p) (hr : Rd w L cl l) (hm : mayPB p = true) (hri : rightA p l = true) :
    Calls Try.prog 36 #[.agg #[.slice A p.costs.length c, .slice A2 p.rows.length c2], .slice L l.length cl] w (RetCbN w (lookC p l) (decide (lookE p l = 0))) := by
  have HQ := Lib.hid (right_nats hri).1
  have HE := Lib.hid (right_nats hri).2
  have h4 := (mayPB_iff.1 hm).2.2.2.1
  have h1 := (mayPB_iff.1 hm).2.2.1
  have h4' := (mayPB_iff.1 hm).2.1
  have h1' := (mayPB_iff.1 hm).1
  have HM := Lib.hid hm
  have HRA := Lib.hid hri
  have hn : l.length = p.rows.length := by simp [rightA] at hri; exact hri.1
  have HN := Lib.hid hn
  have hlm : p.rows.length ≤ cl := by have := hr.le; omega
  rw [hn]
  have hmk := fun w => made_i64 w p.rows.length (p.rows.length : Int) rfl (by omega)
  have HP := Lib.hid hp
  have HL := Lib.hid hr
  obtain ⟨⟨hl, hc, hsm, _⟩, ⟨hl2, hc2, hsm2, _⟩⟩ := hp
  obtain ⟨hll, hlc, hls, _⟩ := hr
  clear hn hri hm hll
  go_enter Try.func36, Try.ntmps36
  go_wp2_with fail
  have Vp := Lib.hid (show Blk ((w.alloc (.cells #[.slice A p.costs.length c, .slice A2 p.rows.length c2] 25)).alloc (.cells #[.slice none 0 0, .int .i64 0, .slice none 0 0, .int .i64 0, .slice none 0 0, .int .i64 0] 42)) w.heap.size 25 #[.slice A p.costs.length c, .slice A2 p.rows.length c2] from (Blk.mk' _ _ _).alloc _)
  have Vr := Lib.hid (show Blk ((w.alloc (.cells #[.slice A p.costs.length c, .slice A2 p.rows.length c2] 25)).alloc (.cells #[.slice none 0 0, .int .i64 0, .slice none 0 0, .int .i64 0, .slice none 0 0, .int .i64 0] 42)) (w.heap.size + 1) 42 #[.slice none 0 0, .int .i64 0, .slice none 0 0, .int .i64 0, .slice none 0 0, .int .i64 0] from Blk.new _ _ _ _ (by simp))
  have hW := ((by (repeat (any_goals (first | exact Below.refl _ _ | refine below_drewN ?_ _ | refine Below.drew ?_ | refine Below.alloc ?_ ?_ _ | refine Below.setCell ?_ ?_ _))); all_goals (first | omega | (simp; done) | (simp; omega))) : Below w.heap.size w ((w.alloc (.cells #[.slice A p.costs.length c, .slice A2 p.rows.length c2] 25)).alloc (.cells #[.slice none 0 0, .int .i64 0, .slice none 0 0, .int .i64 0, .slice none 0 0, .int .i64 0] 42)))
  have zW : ((w.alloc (.cells #[.slice A p.costs.length c, .slice A2 p.rows.length c2] 25)).alloc (.cells #[.slice none 0 0, .int .i64 0, .slice none 0 0, .int .i64 0, .slice none 0 0, .int .i64 0] 42)).heap.size = w.heap.size + 1 + 1 := by simp
  have HPw := Lib.hid (HP.out.below hW)
  have HLw := Lib.hid (HL.out.below hW)
  have HW := Lib.hid hW
  clear hW
  generalize ((w.alloc (.cells #[.slice A p.costs.length c, .slice A2 p.rows.length c2] 25)).alloc (.cells #[.slice none 0 0, .int .i64 0, .slice none 0 0, .int .i64 0, .slice none 0 0, .int .i64 0] 42)) = W at *
  have SC := Lib.hid (show ∀ w', Below W.heap.size W w' → (w'.cell? ⟨w.heap.size, 0, none⟩ = some (.slice A p.costs.length c) ∧ w'.cell? ⟨w.heap.size, 1, none⟩ = some (.slice A2 p.rows.length c2)) from fun w' h => ⟨(Vp.out.next h).cell 0, (Vp.out.next h).cell 1⟩)
  go_loopw [8, 9, 12] (fun s8 s9 i wx => ∃ k : Nat, k ≤ p.rows.length ∧ i = .int .i64 k ∧ LookR (w.heap.size + 1 + 1 + 1 + 1) p.rows.length W wx p (nats l) k s8 s9 ∧ w.heap.size + 1 + 1 + 1 + 1 ≤ wx.heap.size ∧
    wx.ownsRow W.heap.size 2 1 (.slice (some ⟨w.heap.size + 1 + 1, 0, none⟩) p.rows.length p.rows.length) p.rows.length ((partL (fun i => (mosts p).getD i 0) p.rows.length k).map (Value.int .i64)) ∧
    wx.ownsRow W.heap.size 2 1 (.slice (some ⟨w.heap.size + 1 + 1 + 1, 0, none⟩) p.rows.length p.rows.length) p.rows.length ((partL (fun i => costZ p ((nats l).getD i 0)) p.rows.length k).map (Value.int .i64))) (fun _ _ i _ => p.rows.length - (intOf i).toNat)
  case atStart =>
    refine ⟨0, by omega, rfl, ⟨id, id, id, id, RowsM.nil _ _ _ _ _ _, RowsM.nil _ _ _ _ _ _, fun b h => by rcases h with h | ⟨i, hi, _⟩; cases h; omega, by omega, (by (repeat (any_goals (first | exact Below.refl _ _ | refine below_drewN ?_ _ | refine Below.drew ?_ | refine Below.alloc ?_ ?_ _ | refine Below.setCell ?_ ?_ _))); all_goals (first | omega | (simp; done) | (simp; omega)))⟩, by simp; omega, ?_, ?_⟩
    · rw [← partL_zero]; exact (own_made W _ _ _ zW.symm (by omega) (by omega)).alloc _
    · rw [← partL_zero]; exact own_made _ _ _ _ (by simp; omega) (by omega) (by omega)
  case round =>
    obtain ⟨k, hk, rfl, ⟨gd, cd, ga, ca, hlk⟩, zB, hmo, hwo⟩ := hrel
    have HK := Lib.hid hlk
    have HMO := Lib.hid hmo
    have HWO := Lib.hid hwo
    have zL := hlk.below.size
    obtain ⟨q0, q1⟩ := SC.out _ hlk.below
    clear hlk hmo hwo
    rename World => U
    by_cases hlt : k < p.rows.length
    · have hkd : decide ((k : Int) < (p.rows.length : Int)) = true := by simp; omega
      have hbU := ((by (repeat (any_goals (first | exact Below.refl _ _ | refine below_drewN ?_ _ | refine Below.drew ?_ | refine Below.alloc ?_ ?_ _ | refine Below.setCell ?_ ?_ _))); all_goals (first | omega | (simp; done) | (simp; omega))) : Below U.heap.size U ((U.alloc (.cells (Array.replicate p.rows.length (Value.int .i64 0)) 2)).alloc (.cells (Array.replicate p.rows.length (Value.int .i64 0)) 2)))
      have ho1 : ((U.alloc (.cells (Array.replicate p.rows.length (Value.int .i64 0)) 2)).alloc (.cells (Array.replicate p.rows.length (Value.int .i64 0)) 2)).ownsRow U.heap.size 2 1 (.slice (some ⟨U.heap.size, 0, none⟩) p.rows.length p.rows.length) p.rows.length ((partL (fun j => matD p (nats l) k j) p.rows.length 0).map (Value.int .i64)) := by
        rw [← partL_zero]; exact (own_made U _ _ _ rfl (Nat.le_refl _) (by omega)).alloc _
      have ho2 : ((U.alloc (.cells (Array.replicate p.rows.length (Value.int .i64 0)) 2)).alloc (.cells (Array.replicate p.rows.length (Value.int .i64 0)) 2)).ownsRow U.heap.size 2 1 (.slice (some ⟨U.heap.size + 1, 0, none⟩) p.rows.length p.rows.length) p.rows.length ((partL (fun j => matU p (nats l) k j) p.rows.length 0).map (Value.int .i64)) := by
        rw [← partL_zero]; exact own_made _ _ _ _ (by simp) (by omega) (by omega)
      have HBU := Lib.hid hbU
      have HO1 := Lib.hid ho1
      have HO2 := Lib.hid ho2
      clear hbU ho1 ho2 q0 q1
      obtain ⟨al, rfl, hcl⟩ := HLw.out.natAt HE.out (k := k) (by rw [HN.out]; exact hlt)
      have hacl := World.block_lt_of_cell? _ _ hcl
      have HCL := Lib.hid hcl
      have HJ := Lib.hid (HQ.out.at_lt (k := k) (by rw [HQ.out.len]; exact hlt))
      obtain ⟨jk, hjk⟩ : ∃ j, j = (nats l).getD k 0 := ⟨_, rfl⟩
      rw [← hjk] at HJ HCL
      have HJK := Lib.hid hjk
      clear hcl hjk
      have hi0 : (k : Int) < (p.rows.length : Int) := by omega
      go_wp2_with fail
      generalize ((U.alloc (.cells (Array.replicate p.rows.length (Value.int .i64 0)) 2)).alloc (.cells (Array.replicate p.rows.length (Value.int .i64 0)) 2)) = U1 at *
      go_loopw [15] (fun i wx => ∃ s : Nat, s ≤ p.rows.length ∧ i = .int .i64 s ∧ wx.ownsRow U.heap.size 2 1 (.slice (some ⟨U.heap.size, 0, none⟩) p.rows.length p.rows.length) p.rows.length ((partL (fun j => matD p (nats l) k j) p.rows.length s).map (Value.int .i64)) ∧
        wx.ownsRow U.heap.size 2 1 (.slice (some ⟨U.heap.size + 1, 0, none⟩) p.rows.length p.rows.length) p.rows.length ((partL (fun j => matU p (nats l) k j) p.rows.length s).map (Value.int .i64)) ∧ Below U.heap.size U wx) (fun i _ => p.rows.length - (intOf i).toNat)
      case atStart => exact ⟨0, by omega, rfl, HO1.out, HO2.out, HBU.out⟩
      case round =>
        obtain ⟨s, hs, rfl, ho1, ho2, hbel⟩ := hrel
        have HP1 := Lib.hid ho1
        have HP2 := Lib.hid ho2
        have HD := Lib.hid hbel
        have zX := hbel.size
        have HWX := Lib.hid (HK.out.below.trans (hbel.mono zL))
        clear ho1 ho2 hbel
        rename World => X
        by_cases hsm : s < p.rows.length
        · have hsd : decide ((s : Int) < (p.rows.length : Int)) = true := by simp; omega
          obtain ⟨al', e, hcs⟩ := HLw.out.natAt HE.out (k := s) (by rw [HN.out]; exact hsm)
          cases e
          have hacs := World.block_lt_of_cell? _ _ hcs
          have HJs := Lib.hid (HQ.out.at_lt (k := s) (by rw [HQ.out.len]; exact hsm))
          have HMD := Lib.hid (matD_has (p := p) (q := nats l) (i := k) (j := s) (by rw [HQ.out.len]; exact hsm))
          have HMU := Lib.hid (show matU p (nats l) k s = hasZ p s jk by rw [matU_has (by rw [HQ.out.len]; exact hsm), HJK.out])
          generalize (nats l).getD s 0 = js at *
          have e1 := own_cell' HP1.out s _ (map_at_int (by rw [length_partL]; exact hsm))
          have f1 := own_free' HP1.out s
          have hl1 := (HP1.out.lt _ rfl).2
          generalize (partL (fun j => matD p (nats l) k j) p.rows.length s).getD s 0 = z1 at *
          have s0 : ∀ u : Wk X, u.1.cell? ⟨w.heap.size, 0, none⟩ = some (.slice A p.costs.length c) := fun u => (SC.out _ (HWX.out.trans (u.2.mono HWX.out.size))).1
          have s1 : ∀ u : Wk X, u.1.cell? ⟨w.heap.size, 1, none⟩ = some (.slice A2 p.rows.length c2) := fun u => (SC.out _ (HWX.out.trans (u.2.mono HWX.out.size))).2
          have s2 : ∀ u : Wk X, u.1.cell? (al.add s) = some (.int .i64 (js : Int)) := fun u => ((HWX.out.trans (u.2.mono HWX.out.size)).cell hacs).trans hcs
          have s3 : ∀ u : Wk X, u.1.cell? ⟨U.heap.size, s, none⟩ = some (.int .i64 z1) := fun u => (u.2.cell (p := ⟨U.heap.size, s, none⟩) hl1).trans e1
          have s4 : ∀ u : Wk X, u.1.frozen? ⟨U.heap.size, s, none⟩ = false := fun u => (u.2.frozen (p := ⟨U.heap.size, s, none⟩) hl1).trans f1
          have HC := Lib.hid (show ∀ u : Wk X, Calls Try.prog 83 #[.agg #[.slice A p.costs.length c, .slice A2 p.rows.length c2], .int .i64 k, .int .i64 js] u.1 fun e w' => e = .returned (.int .i64 (hasZ p k js)) ∧ Below u.1.heap.size u.1 w' from
            fun u => ref3_Has _ _ _ _ _ k js u.1 (HPw.out.below (HWX.out.trans (u.2.mono HWX.out.size))) HM.out hlt (by have := HJs.out; omega))
          have hi1 : (s : Int) < (p.rows.length : Int) := by omega
          clear e1 f1 hcs
          go_wp2_with fail
          refine wk_tail 10 (by kernel_rfl) (by kernel_rfl) ?_
          simp only [List.take_succ_cons, List.take_zero, List.drop_succ_cons, List.drop_zero]
          repeat (go_big_quiet_step ((go_at_call 83; with_reducible exact wk_call (HC.out _))))
          refine wpQuiet_nil ?_
          rintro w7 ⟨u7, rfl⟩
          go_wp2_with fail
          clear s0 s1 s2 s3 s4
          have z7 := u7.2.size
          have HT1 := Lib.hid (show (u7.1.setCell ⟨U.heap.size, s, none⟩ (.int .i64 (hasZ p k js))).ownsRow U.heap.size 2 1 (.slice (some ⟨U.heap.size, 0, none⟩) p.rows.length p.rows.length) p.rows.length ((partL (fun j => matD p (nats l) k j) p.rows.length (s + 1)).map (Value.int .i64)) from by
            rw [← partL_set, HMD.out, ← map_set_int]; exact own_put (own_below HP1.out u7.2) s _)
          have HT2 := Lib.hid (own_far (own_below HP2.out u7.2) (p := ⟨U.heap.size, s, none⟩) (.int .i64 (hasZ p k js)) (fun e => by have := Option.some.inj e; simp at this))
          have HT3 := Lib.hid ((HD.out.trans (u7.2.mono zX)).setCell (p := ⟨U.heap.size, s, none⟩) (Nat.le_refl _) (.int .i64 (hasZ p k js)))
          clear HP1 HP2 HC HWX HD z7
          generalize (u7.1.setCell ⟨U.heap.size, s, none⟩ (.int .i64 (hasZ p k js))) = X2 at *
          have HWX := Lib.hid (HK.out.below.trans (HT3.out.mono zL))
          have zX2 := HT3.out.size
          have e1 := own_cell' HT2.out s _ (map_at_int (by rw [length_partL]; exact hsm))
          have f1 := own_free' HT2.out s
          have hl2 := (HT2.out.lt _ rfl).2
          generalize (partL (fun j => matU p (nats l) k j) p.rows.length s).getD s 0 = z2 at *
          have s0 : ∀ u : Wk X2, u.1.cell? ⟨w.heap.size, 0, none⟩ = some (.slice A p.costs.length c) := fun u => (SC.out _ (HWX.out.trans (u.2.mono HWX.out.size))).1
          have s1 : ∀ u : Wk X2, u.1.cell? ⟨w.heap.size, 1, none⟩ = some (.slice A2 p.rows.length c2) := fun u => (SC.out _ (HWX.out.trans (u.2.mono HWX.out.size))).2
          have s2 : ∀ u : Wk X2, u.1.cell? (al.add k) = some (.int .i64 (jk : Int)) := fun u => ((HWX.out.trans (u.2.mono HWX.out.size)).cell hacl).trans HCL.out
          have s3 : ∀ u : Wk X2, u.1.cell? ⟨U.heap.size + 1, s, none⟩ = some (.int .i64 z2) := fun u => (u.2.cell (p := ⟨U.heap.size + 1, s, none⟩) hl2).trans e1
          have s4 : ∀ u : Wk X2, u.1.frozen? ⟨U.heap.size + 1, s, none⟩ = false := fun u => (u.2.frozen (p := ⟨U.heap.size + 1, s, none⟩) hl2).trans f1
          have HC := Lib.hid (show ∀ u : Wk X2, Calls Try.prog 83 #[.agg #[.slice A p.costs.length c, .slice A2 p.rows.length c2], .int .i64 s, .int .i64 jk] u.1 fun e w' => e = .returned (.int .i64 (hasZ p s jk)) ∧ Below u.1.heap.size u.1 w' from
            fun u => ref3_Has _ _ _ _ _ s jk u.1 (HPw.out.below (HWX.out.trans (u.2.mono HWX.out.size))) HM.out hsm (by have := HJ.out; omega))
          clear e1 f1
          refine wk_tail 10 (by kernel_rfl) (by kernel_rfl) ?_
          simp only [List.take_succ_cons, List.take_zero, List.drop_succ_cons, List.drop_zero]
          repeat (go_big_quiet_step ((go_at_call 83; with_reducible exact wk_call (HC.out _))))
          refine wpQuiet_nil ?_
          rintro w8 ⟨u8', rfl⟩
          go_wp2_with fail
          go_roundw
          case rel => exact ⟨s + 1, by omega, by go_num, own_far (own_below HT1.out u8'.2) _ (fun e => by have := Option.some.inj e; simp at this), by rw [← partL_set, HMU.out, ← map_set_int]; exact own_put (own_below HT2.out u8'.2) s _, (HT3.out.trans (u8'.2.mono zX2)).setCell (by simp) _⟩
          case measure => simp [intOf]; omega
        · obtain rfl : s = p.rows.length := by omega
          have hsd : decide ((p.rows.length : Int) < (p.rows.length : Int)) = false := by simp
          have HRA1 := Lib.hid (show X.ownsRow U.heap.size 2 1 (.slice (some ⟨U.heap.size, 0, none⟩) p.rows.length p.rows.length) p.rows.length ((List.range p.rows.length).map fun j => Value.int .i64 (matD p (nats l) k j)) from by rw [← map_partL_end]; exact HP1.out)
          have HRB1 := Lib.hid (show X.ownsRow U.heap.size 2 1 (.slice (some ⟨U.heap.size + 1, 0, none⟩) p.rows.length p.rows.length) p.rows.length ((List.range p.rows.length).map fun j => Value.int .i64 (matU p (nats l) k j)) from by rw [← map_partL_end]; exact HP2.out)
          have zWB : W.heap.size ≤ w.heap.size + 1 + 1 + 1 + 1 := by omega
          have hdl := HK.out.down.own.lt
          have hal := HK.out.across.own.lt
          have HDL := Lib.hid hdl
          have HAL := Lib.hid hal
          obtain ⟨ad, A', c', rfl, hc1, hc2', hrr⟩ := HPw.out.rows.at_ hlt
          have hadl := World.block_lt_of_cell? _ _ hc2'
          have HC2 := Lib.hid hc2'
          have HMK := Lib.hid (show (mosts p).getD k 0 = p.rows[k].2 by rw [getD_mosts]; simp [List.getD, List.getElem?_eq_getElem hlt])
          clear hc1 hc2' hrr hdl hal
          have hbm := mosts_at_bound HM.out k
          rw [HMK.out] at hbm
          generalize p.rows[k].2 = r2 at *
          go_wp2_with (first
            | (at_builtin; refine list_app1 rfl (.tmp 70) (.tmp 72) _ _ _ 24 und_rows inf_ints rfl rfl (w.heap.size + 1 + 1 + 1 + 1) u8 k _ _ rfl ((HK.out.to HD.out).down.own.alloc _) _ 1 rfl (cell_new1 _ _ _) rfl (by unfold maxLen; omega) (by omega) (by simp; omega) ?_; intro g3 cap3 w3 hown3 hg3 hat3 hlt3; have z3 := hg3.size; simp at z3; have HA3 := Lib.hid (own_same HK.out.across.own (w' := w3) (fun b e => by have hb := (HK.out.across.own.lt b e).2; rw [hg3.block b (by simp; omega) (fun q => HK.out.apart b (.inl q.symm) (.inl e)), Below.heap_alloc X _ b (by omega), HD.out.block b hb])); have HB3 := Lib.hid (((HD.out.mono zB).alloc (by omega) _).grown hg3 (by simp; omega) (fun j e => (HDL.out j e).1)); have HO3 := Lib.hid hown3; have HG3 := Lib.hid hg3; clear hown3 hg3)
            | (at_builtin; refine list_app1 rfl (.tmp 74) (.tmp 76) _ _ _ 24 und_rows inf_ints rfl rfl (w.heap.size + 1 + 1 + 1 + 1) u9 k _ _ rfl (HA3.out.alloc _) _ 1 rfl (cell_new1 _ _ _) rfl (by unfold maxLen; omega) (by omega) (by simp; omega) ?_; intro g4 cap4 w4 hown4 hg4 hat4 hlt4; have z4 := hg4.size; simp at z4; have HB4 := Lib.hid ((HB3.out.alloc (by omega) _).grown hg4 (by simp; omega) (fun j e => (HAL.out j e).1)); have HW4 := Lib.hid (HK.out.below.trans (HB4.out.mono zWB)); obtain ⟨q0, q1⟩ := SC.out _ HW4.out; have hx2 := (HW4.out.cell hadl).trans HC2.out; have HM4 := Lib.hid (own_same HMO.out (w' := w4) (fun b e => HB4.out.block b (by have := Option.some.inj e; simp only at this; omega))); have HX4 := Lib.hid (own_same HWO.out (w' := w4) (fun b e => HB4.out.block b (by have := Option.some.inj e; simp only at this; omega))); have e1 := own_cell' HM4.out k _ (map_at_int (by rw [length_partL]; exact hlt)); have f1 := own_free' HM4.out k; have HO4 := Lib.hid hown4; have HG4 := Lib.hid hg4; clear hown4 hg4))
          have HLR := Lib.hid (show LookR (w.heap.size + 1 + 1 + 1 + 1) p.rows.length W w4 p (nats l) (k + 1) _ _ from look_round3 HK.out HD.out zB HRA1.out HRB1.out (by omega) HG3.out hat3 HO3.out HG4.out hat4 HO4.out)
          clear e1 f1 hx2 q0 q1 hat3 hat4 HO3 HO4 HG3 HG4 HA3 HB3
          have zw4 := HW4.out.size
          have HM5 := Lib.hid (show (w4.setCell ⟨w.heap.size + 1 + 1, k, none⟩ (.int .i64 r2)).ownsRow W.heap.size 2 1 (.slice (some ⟨w.heap.size + 1 + 1, 0, none⟩) p.rows.length p.rows.length) p.rows.length ((partL (fun i => (mosts p).getD i 0) p.rows.length (k + 1)).map (Value.int .i64)) from by
            rw [← partL_set, HMK.out, ← map_set_int]; exact own_put HM4.out k _)
          have HX5 := Lib.hid (own_far HX4.out (p := ⟨w.heap.size + 1 + 1, k, none⟩) (.int .i64 r2) (fun e => by have := Option.some.inj e; simp at this))
          have HLR5 := Lib.hid (show LookR (w.heap.size + 1 + 1 + 1 + 1) p.rows.length W (w4.setCell ⟨w.heap.size + 1 + 1, k, none⟩ (.int .i64 r2)) p (nats l) (k + 1) _ _ from by
            obtain ⟨_, _, _, _, h⟩ := HLR.out
            exact ⟨_, _, _, _, h.far (a := ⟨w.heap.size + 1 + 1, k, none⟩) _ (by first | (simp; done) | (simp; omega)) (by first | (simp; done) | (simp; omega))⟩)
          have HW5 := Lib.hid (HW4.out.setCell (p := ⟨w.heap.size + 1 + 1, k, none⟩) (by first | (simp; done) | (simp; omega)) (.int .i64 r2))
          have hz5 : (w4.setCell ⟨w.heap.size + 1 + 1, k, none⟩ (.int .i64 r2)).heap.size = w4.heap.size := by simp
          clear HM4 HX4 HLR HW4
          generalize (w4.setCell ⟨w.heap.size + 1 + 1, k, none⟩ (.int .i64 r2)) = X5 at *
          have e1 := own_cell' HX5.out k _ (map_at_int (by rw [length_partL]; exact hlt))
          have f1 := own_free' HX5.out k
          have hl1 := (HX5.out.lt _ rfl).2
          have HWC := Lib.hid (show costZ p ((nats l).getD k 0) = costZ p jk by rw [HJK.out])
          generalize (partL (fun i => costZ p ((nats l).getD i 0)) p.rows.length k).getD k 0 = z1 at *
          have s0 : ∀ u : Wk X5, u.1.cell? ⟨w.heap.size, 0, none⟩ = some (.slice A p.costs.length c) := fun u => (SC.out _ (HW5.out.trans (u.2.mono HW5.out.size))).1
          have s1 : ∀ u : Wk X5, u.1.cell? ⟨w.heap.size, 1, none⟩ = some (.slice (some ad) p.rows.length c2) := fun u => (SC.out _ (HW5.out.trans (u.2.mono HW5.out.size))).2
          have s2 : ∀ u : Wk X5, u.1.cell? (al.add k) = some (.int .i64 (jk : Int)) := fun u => ((HW5.out.trans (u.2.mono HW5.out.size)).cell hacl).trans HCL.out
          have s3 : ∀ u : Wk X5, u.1.cell? ⟨w.heap.size + 1 + 1 + 1, k, none⟩ = some (.int .i64 z1) := fun u => (u.2.cell (p := ⟨w.heap.size + 1 + 1 + 1, k, none⟩) hl1).trans e1
          have s4 : ∀ u : Wk X5, u.1.frozen? ⟨w.heap.size + 1 + 1 + 1, k, none⟩ = false := fun u => (u.2.frozen (p := ⟨w.heap.size + 1 + 1 + 1, k, none⟩) hl1).trans f1
          have HC := Lib.hid (show ∀ u : Wk X5, Calls Try.prog 84 #[.agg #[.slice A p.costs.length c, .slice (some ad) p.rows.length c2], .int .i64 jk] u.1 fun e w' => e = .returned (.int .i64 (costZ p jk)) ∧ Below u.1.heap.size u.1 w' from
            fun u => ref3_Cost _ _ _ _ _ jk u.1 (HPw.out.below (HW5.out.trans (u.2.mono HW5.out.size))))
          clear e1 f1
          refine wk_tail 9 (by kernel_rfl) (by kernel_rfl) ?_
          simp only [List.take_succ_cons, List.take_zero, List.drop_succ_cons, List.drop_zero]
          repeat (go_big_quiet_step ((go_at_call 84; with_reducible exact wk_call (HC.out _))))
          refine wpQuiet_nil ?_
          rintro w7 ⟨u7, rfl⟩
          go_wp2_with fail
          go_roundw
          case rel =>
            have z7 := u7.2.size
            refine ⟨k + 1, by omega, by go_num, ?_, ?_, ?_, ?_⟩
            · obtain ⟨_, _, _, _, h⟩ := HLR5.out
              exact ⟨_, _, _, _, (h.to u7.2).far (a := ⟨w.heap.size + 1 + 1 + 1, k, none⟩) _ (by first | (simp; done) | (simp; omega)) (by first | (simp; done) | (simp; omega))⟩
            · first | (simp; done) | (simp; omega)
            · exact own_far (own_below HM5.out u7.2) _ (fun e => by have := Option.some.inj e; simp at this)
            · rw [← partL_set, HWC.out, ← map_set_int]; exact own_put (own_below HX5.out u7.2) k _
          case measure => simp [intOf]; omega
    · obtain rfl : k = p.rows.length := by omega
      have hkd : decide ((p.rows.length : Int) < (p.rows.length : Int)) = false := by simp
      obtain ⟨O8, c8, rfl⟩ := own_some HK.out.down.own (by omega)
      obtain ⟨O9, c9, rfl⟩ := own_some HK.out.across.own (by omega)
      have hcap8 := own_caps HK.out.down.own
      have hcap9 := own_caps HK.out.across.own
      have HD8 := Lib.hid (show Rm U (some ⟨O8, 0, none⟩) c8 (sq (matD p (nats l)) p.rows.length) from HK.out.down.mat.reads hcap8.1 hcap8.2 (by omega))
      have HD9 := Lib.hid (show Rm U (some ⟨O9, 0, none⟩) c9 (sq (matU p (nats l)) p.rows.length) from HK.out.across.mat.reads hcap9.1 hcap9.2 (by omega))
      have HMR := Lib.hid (show Rd U (some ⟨w.heap.size + 1 + 1, 0, none⟩) p.rows.length ((List.range p.rows.length).map fun i => (mosts p).getD i 0) from Rd.of_own (base := W.heap.size) (e := 2) (by rw [show ((List.range p.rows.length).map fun i => (mosts p).getD i 0).length = p.rows.length by simp, ← partL_end]; exact HMO.out) (by simp; omega))
      have HWR := Lib.hid (show Rd U (some ⟨w.heap.size + 1 + 1 + 1, 0, none⟩) p.rows.length ((List.range p.rows.length).map fun i => costZ p ((nats l).getD i 0)) from Rd.of_own (base := W.heap.size) (e := 2) (by rw [show ((List.range p.rows.length).map fun i => costZ p ((nats l).getD i 0)).length = p.rows.length by simp, ← partL_end]; exact HWO.out) (by simp; omega))
      have HSD := Lib.hid (show Small (matD p (nats l)) p.rows.length from HQ.out.len ▸ matD_small HM.out)
      have HSU := Lib.hid (show Small (matU p (nats l)) p.rows.length from HQ.out.len ▸ matU_small HM.out)
      have HDE := Lib.hid (show detF p.rows.length (sq (matD p (nats l)) p.rows.length) = denZ p (nats l) from detF_sq _ _)
      obtain ⟨N, hN⟩ : ∃ N, N = p.costs.length + p.rows.length := ⟨_, rfl⟩
      have HNN := Lib.hid hN
      have hN8 : N ≤ 8 := by omega
      have hNc : (p.costs.length : Int) + (p.rows.length : Int) = N := by omega
      have hmk2 := fun w => made_i64 w N (N : Int) rfl (by omega)
      rw [hNc]
      clear HMO HWO hN hNc q0 q1
      go_wp2_with fail
      refine (ref3_det p.rows.length _ _ c8 _ h4 (sq_len _ _) (sq_row _ _) (sq_small HSD.out) HD8.out).mono ?_
      rintro e w2 ⟨rfl, hb2⟩
      rw [HDE.out]
      have hdb := den_bound (p := p) (l := nats l) HM.out HQ.out.len
      have HW2 := Lib.hid (HK.out.below.trans (hb2.mono zL))
      have HB2 := Lib.hid hb2
      clear hb2
      by_cases hd0 : denZ p (nats l) = 0
      · have HD0 := Lib.hid hd0
        have y0 : w2.cell? ⟨w.heap.size + 1, 0, none⟩ = some (.slice none 0 0) := (Vr.out.next HW2.out).cell 0
        have y1 : w2.cell? ⟨w.heap.size + 1, 1, none⟩ = some (.int .i64 0) := (Vr.out.next HW2.out).cell 1
        have y2 : w2.cell? ⟨w.heap.size + 1, 2, none⟩ = some (.slice none 0 0) := (Vr.out.next HW2.out).cell 2
        have y3 : w2.cell? ⟨w.heap.size + 1, 3, none⟩ = some (.int .i64 0) := (Vr.out.next HW2.out).cell 3
        have y4 : w2.cell? ⟨w.heap.size + 1, 4, none⟩ = some (.slice none 0 0) := (Vr.out.next HW2.out).cell 4
        have y5 : w2.cell? ⟨w.heap.size + 1, 5, none⟩ = some (.int .i64 0) := (Vr.out.next HW2.out).cell 5
        have g0 := (Vr.out.next HW2.out).frozen 0
        have g1 := (Vr.out.next HW2.out).frozen 1
        have g2 := (Vr.out.next HW2.out).frozen 2
        have g3 := (Vr.out.next HW2.out).frozen 3
        have g4 := (Vr.out.next HW2.out).frozen 4
        have g5 := (Vr.out.next HW2.out).frozen 5
        rw [hd0]
        clear hd0 hdb
        go_wp2_with fail
        refine bodyPost_ret (v := .tuple #[.agg #[.slice none 0 0, .int .i64 0, .slice none 0 0, .int .i64 0, .slice none 0 0, .int .i64 0], .bool false]) ?_ ?_ ?_
        · simp [results, Try.results36, go_sem, y0, y1, y2, y3, y4, y5]
        · rfl
        · have hE : lookE p l = 4 := by
            unfold lookE
            rw [if_neg (by rw [HM.out]; decide), if_neg (by rw [HRA.out]; decide), if_pos HD0.out]
          have hC : lookC p l = ⟨[], 0, [], 0, [], 0⟩ := by unfold lookC; rw [if_neg (by rw [hE]; decide)]
          rw [hE, hC]
          refine RetCbN.none false ?_
          iterate 6 refine Below.setCell ?_ (Nat.le_succ _) _
          exact HW.out.trans (HW2.out.mono (by omega))
      · have HD0 := Lib.hid hd0
        have hdd : (denZ p (nats l) == 0) = false := by simpa using hd0
        obtain ⟨dn, hdn⟩ : ∃ dn, dn = denZ p (nats l) := ⟨_, rfl⟩
        rw [← hdn] at hdd hdb ⊢
        have HDN := Lib.hid hdn
        clear hd0 hdn
        have ho1 : ((w2.alloc (.cells (Array.replicate N (Value.int .i64 0)) 2)).alloc (.cells (Array.replicate p.rows.length (Value.int .i64 0)) 2)).ownsRow w2.heap.size 2 1 (.slice (some ⟨w2.heap.size, 0, none⟩) N N) N ((putAll (nats l) (xk p (nats l)) N 0).map (Value.int .i64)) := by
          rw [← putAll_none]; exact (own_made w2 _ _ _ rfl (Nat.le_refl _) (by omega)).alloc _
        have ho2 : ((w2.alloc (.cells (Array.replicate N (Value.int .i64 0)) 2)).alloc (.cells (Array.replicate p.rows.length (Value.int .i64 0)) 2)).ownsRow w2.heap.size 2 1 (.slice (some ⟨w2.heap.size + 1, 0, none⟩) p.rows.length p.rows.length) p.rows.length ((partL (yk p (nats l)) p.rows.length 0).map (Value.int .i64)) := by
          rw [← partL_zero]; exact own_made _ _ _ _ (by simp) (by omega) (by omega)
        have HO1 := Lib.hid ho1
        have HO2 := Lib.hid ho2
        have HBZ := Lib.hid ((by (repeat (any_goals (first | exact Below.refl _ _ | refine below_drewN ?_ _ | refine Below.drew ?_ | refine Below.alloc ?_ ?_ _ | refine Below.setCell ?_ ?_ _))); all_goals (first | omega | (simp; done) | (simp; omega))) : Below w2.heap.size w2 ((w2.alloc (.cells (Array.replicate N (Value.int .i64 0)) 2)).alloc (.cells (Array.replicate p.rows.length (Value.int .i64 0)) 2)))
        clear ho1 ho2
        go_wp2_with fail
        generalize ((w2.alloc (.cells (Array.replicate N (Value.int .i64 0)) 2)).alloc (.cells (Array.replicate p.rows.length (Value.int .i64 0)) 2)) = Z at *
        go_loopw [19] (fun i wx => ∃ k : Nat, k ≤ p.rows.length ∧ i = .int .i64 k ∧ wx.ownsRow w2.heap.size 2 1 (.slice (some ⟨w2.heap.size, 0, none⟩) N N) N ((putAll (nats l) (xk p (nats l)) N k).map (Value.int .i64)) ∧
          wx.ownsRow w2.heap.size 2 1 (.slice (some ⟨w2.heap.size + 1, 0, none⟩) p.rows.length p.rows.length) p.rows.length ((partL (yk p (nats l)) p.rows.length k).map (Value.int .i64)) ∧ Below w2.heap.size w2 wx) (fun i _ => p.rows.length - (intOf i).toNat)
        case atStart => exact ⟨0, by omega, rfl, HO1.out, HO2.out, HBZ.out⟩
        case round =>
          obtain ⟨k, hk, rfl, ho1, ho2, hbel⟩ := hrel
          have HP1 := Lib.hid ho1
          have HP2 := Lib.hid ho2
          have HL1 := Lib.hid hbel
          have zL1 := hbel.size
          have HWY := Lib.hid (HW2.out.trans (hbel.mono HW2.out.size))
          have HUY := Lib.hid (HB2.out.trans (hbel.mono HB2.out.size))
          rename World => Y1
          clear ho1 ho2 hbel
          by_cases hkm : k < p.rows.length
          · have hkd' : decide ((k : Int) < (p.rows.length : Int)) = true := by simp; omega
            obtain ⟨al, rfl, hcl⟩ := HLw.out.natAt HE.out (k := k) (by rw [HN.out]; exact hkm)
            have hacl := World.block_lt_of_cell? _ _ hcl
            have HJ := HQ.out.at_lt (k := k) (by rw [HQ.out.len]; exact hkm)
            have hsu := putAll_succ (nats l) (xk p (nats l)) N k
            obtain ⟨jk, hjk⟩ : ∃ j, j = (nats l).getD k 0 := ⟨_, rfl⟩
            rw [← hjk] at hcl HJ hsu
            have hjN : jk < N := by rw [HNN.out]; exact HJ
            have HSU2 := Lib.hid hsu
            have SK := Lib.hid (show ∀ w', Below W.heap.size W w' → w'.cell? (al.add k) = some (.int .i64 (jk : Int)) from fun w' h => (h.cell hacl).trans hcl)
            have hi0 : (jk : Int) < (N : Int) := by omega
            have hi1 : (k : Int) < (p.rows.length : Int) := by omega
            have HLT1 := Lib.hid ((HP1.out.lt _ rfl).2)
            clear hsu hjk HJ hcl
            go_wp2_with fail
            go_region_held3 (fun w' => w'.cell? (al.add k) = some (.int .i64 (jk : Int)))
              (first | (refine SK.out _ ?_; exact hbs) | (refine SK.out _ ?_; exact hb7') | (refine SK.out _ ?_; exact hb6') | (refine SK.out _ ?_; exact HWY.out.drew))
              (first
                | (go_at_call 86; refine (ref3_putS (matD p (nats l)) p.rows.length k _ c8 _ p.rows.length _ _ h1 h4 hkm (HD8.out.below (by exact HUY.out.drew)) (HMR.out.below (by exact HUY.out.drew))).mono ?_; rintro e w6 ⟨A6, c6, rfl, hR6, hb6⟩; have hb6' : Below W.heap.size W w6 := (HWY.out.drew).trans (hb6.mono HWY.out.size))
                | (go_at_call 85; refine (ref3_detS (matD p (nats l)) p.rows.length k _ _ _ _ h4 HSD.out (fun i hi => by unfold matD; rw [if_neg (by rw [HQ.out.len]; omega)]) hR6).mono ?_; rintro e w7 ⟨rfl, hb7⟩; have hb7' : Below W.heap.size W w7 := hb6'.trans (hb7.mono hb6'.size); have hb17 : Below Y1.heap.size Y1 w7 := ((Below.refl _ Y1).drew.trans hb6).trans (hb7.mono hb6.size); have hbs := (hb7'.setCell (p := ⟨w2.heap.size, jk, none⟩) HW2.out.size (.int .i64 (dtp (matD p (nats l)) p.rows.length k p.rows.length))); have e1 := own_cell' (own_below HP1.out hb17) jk _ (map_at_int (by rw [length_putAll]; exact hjN)); have f1 := own_free' (own_below HP1.out hb17) jk))
            go_wp2_with fail
            have HT1 := Lib.hid (show (w7.setCell ⟨w2.heap.size, jk, none⟩ (.int .i64 (dtp (matD p (nats l)) p.rows.length k p.rows.length))).ownsRow w2.heap.size 2 1 (.slice (some ⟨w2.heap.size, 0, none⟩) N N) N ((putAll (nats l) (xk p (nats l)) N (k + 1)).map (Value.int .i64)) from by
              rw [HSU2.out, ← map_set_int]; exact own_put (own_below HP1.out hb17) jk _)
            have HT2 := Lib.hid (own_far (own_below HP2.out hb17) (p := ⟨w2.heap.size, jk, none⟩) (.int .i64 (dtp (matD p (nats l)) p.rows.length k p.rows.length)) (fun e => by have := Option.some.inj e; simp at this))
            have HT3 := Lib.hid ((HL1.out.trans (hb17.mono zL1)).setCell (p := ⟨w2.heap.size, jk, none⟩) (Nat.le_refl _) (.int .i64 (dtp (matD p (nats l)) p.rows.length k p.rows.length)))
            clear e1 f1 hbs hb17 hb7' hb7 hb6' hb6 hR6 HP1 HP2
            generalize (w7.setCell ⟨w2.heap.size, jk, none⟩ (.int .i64 (dtp (matD p (nats l)) p.rows.length k p.rows.length))) = X5 at *
            have HUX := HB2.out.trans (HT3.out.mono HB2.out.size)
            have zX5 := HT3.out.size
            refine (ref3_putS (matU p (nats l)) p.rows.length k _ c9 _ p.rows.length _ _ h1 h4 hkm (HD9.out.below HUX) (HWR.out.below HUX)).mono ?_
            rintro e w8 ⟨A8, c8', rfl, hR8, hb8⟩
            have HR8 := Lib.hid hR8
            have HB8 := Lib.hid hb8
            clear hR8 hb8 HUX
            go_wp2_with fail
            refine (ref3_detS (matU p (nats l)) p.rows.length k _ _ _ _ h4 HSU.out (fun i hi => by unfold matU; rw [if_neg (by rw [HQ.out.len]; omega)]) HR8.out).mono ?_
            rintro e w9 ⟨rfl, hb9⟩
            have HB9 := Lib.hid (HB8.out.trans (hb9.mono HB8.out.size))
            have e1 := own_cell' (own_below HT2.out HB9.out) k _ (map_at_int (by rw [length_partL]; exact hkm))
            have f1 := own_free' (own_below HT2.out HB9.out) k
            clear hb9
            go_wp2_with fail
            go_roundw
            case rel => exact ⟨k + 1, by omega, by go_num, own_far (own_below HT1.out HB9.out) _ (fun e => by have := Option.some.inj e; simp at this), by rw [← partL_set, ← map_set_int]; exact own_put (own_below HT2.out HB9.out) k _, (HT3.out.trans (HB9.out.mono zX5)).setCell (by first | (simp; done) | (simp; omega)) _⟩
            case measure => simp [intOf]; omega
          · obtain rfl : k = p.rows.length := by omega
            have HX1 := Lib.hid (show Rd Y1 (some ⟨w2.heap.size, 0, none⟩) N (xall p (nats l)) from by
              have hlx : (xall p (nats l)).length = N := by rw [HNN.out]; exact length_putAll _ _ _ _
              exact Rd.of_own (base := w2.heap.size) (e := 2) (by rw [hlx, show xall p (nats l) = putAll (nats l) (xk p (nats l)) N p.rows.length by rw [HNN.out]; rfl]; exact HP1.out) (by omega))
            have HY1 := Lib.hid (show Rd Y1 (some ⟨w2.heap.size + 1, 0, none⟩) p.rows.length (yall p (nats l)) from Rd.of_own (base := w2.heap.size) (e := 2) (by
              rw [show (yall p (nats l)).length = p.rows.length by simp [yall], show yall p (nats l) = partL (yk p (nats l)) p.rows.length p.rows.length by rw [partL_end]; rfl]; exact HP2.out) (by simp [yall]; omega))
            have HGZ := Lib.hid (show (Y1.alloc (.cells (Array.replicate N (Value.int .i64 0)) 2)).ownsRow Y1.heap.size 2 1 (.slice (some ⟨Y1.heap.size, 0, none⟩) N N) N ((gainL p (nats l) N 0 0).map (Value.int .i64)) from by rw [← gainL_zero]; exact own_made _ _ _ _ rfl (Nat.le_refl _) (by omega))
            have HBY := Lib.hid (show Below Y1.heap.size Y1 (Y1.alloc (.cells (Array.replicate N (Value.int .i64 0)) 2)) from (Below.refl _ _).alloc (Nat.le_refl _) _)
            have hkd' : decide ((p.rows.length : Int) < (p.rows.length : Int)) = false := by simp
            clear HP1 HP2
            go_wp2_with fail
            generalize (Y1.alloc (.cells (Array.replicate N (Value.int .i64 0)) 2)) = Y1' at *
            go_loopw [21] (fun i wx => ∃ j : Nat, j ≤ N ∧ i = .int .i64 j ∧ wx.ownsRow Y1.heap.size 2 1 (.slice (some ⟨Y1.heap.size, 0, none⟩) N N) N ((gainL p (nats l) N j 0).map (Value.int .i64)) ∧ Below Y1.heap.size Y1 wx) (fun i _ => N - (intOf i).toNat)
            case atStart => exact ⟨0, by omega, rfl, HGZ.out, HBY.out⟩
            case round =>
              obtain ⟨j, hj, rfl, ho2, hbel⟩ := hrel
              have HR2 := Lib.hid ho2
              have HL2 := Lib.hid hbel
              have zL2 := hbel.size
              have HW2' := Lib.hid (HWY.out.trans (hbel.mono HWY.out.size))
              obtain ⟨q0, q1⟩ := SC.out _ HW2'.out
              rename World => Y2
              clear ho2 hbel
              by_cases hjN : j < N
              · have hjd : decide ((j : Int) < (N : Int)) = true := by simp; omega
                have HCO := Lib.hid (show gk p (nats l) j 0 = costZ p j * dn by rw [gk_zero, HDN.out])
                have hcb := costZ_bound HM.out j
                obtain ⟨hm1, hm2⟩ := mul_bound (costZ p j) dn 400 497664 hcb.1 hcb.2 hdb.1 hdb.2
                have hw1 : IntKind.i64.wrap (costZ p j * dn) = costZ p j * dn := IntWalk.i64_in _ (by omega)
                have hi0 : (j : Int) < (N : Int) := by omega
                clear hm1 hm2 hcb
                go_wp2_with fail
                refine (ref3_Cost _ _ _ _ _ _ _ (HPw.out.below HW2'.out)).mono ?_
                rintro e w5 ⟨rfl, hb5⟩
                generalize costZ p j = cj at *
                have HT2 := Lib.hid (own_below HR2.out hb5)
                have HB5 := Lib.hid (HL2.out.trans (hb5.mono zL2))
                have e1 := own_cell' HT2.out j _ (gainL_at hjN)
                have f1 := own_free' HT2.out j
                clear hb5 q0 q1
                go_wp2_with fail
                clear e1 f1 hw1
                have HT4 := Lib.hid (show (w5.setCell ⟨Y1.heap.size, j, none⟩ (.int .i64 (cj * dn))).ownsRow Y1.heap.size 2 1 (.slice (some ⟨Y1.heap.size, 0, none⟩) N N) N ((gainL p (nats l) N j (gk p (nats l) j 0)).map (Value.int .i64)) from by
                  rw [HCO.out, ← gainL_set (u := 0), ← map_set_int]; exact own_put HT2.out j _)
                have HB6 := Lib.hid (HB5.out.setCell (p := ⟨Y1.heap.size, j, none⟩) (Nat.le_refl _) (.int .i64 (cj * dn)))
                clear HT2 HB5 HCO
                generalize (w5.setCell ⟨Y1.heap.size, j, none⟩ (.int .i64 (cj * dn))) = V6 at *
                go_loopw [22] (fun i wx => ∃ s : Nat, s ≤ p.rows.length ∧ i = .int .i64 s ∧
                  wx.ownsRow Y1.heap.size 2 1 (.slice (some ⟨Y1.heap.size, 0, none⟩) N N) N ((gainL p (nats l) N j (gk p (nats l) j s)).map (Value.int .i64)) ∧ Below Y1.heap.size Y1 wx) (fun i _ => p.rows.length - (intOf i).toNat)
                case atStart => exact ⟨0, by omega, rfl, HT4.out, HB6.out⟩
                case round =>
                  obtain ⟨s, hs, rfl, ho2, hbel⟩ := hrel
                  have HS2 := Lib.hid ho2
                  have HL3 := Lib.hid hbel
                  have zL3 := hbel.size
                  have HWX := Lib.hid (HWY.out.trans (hbel.mono HWY.out.size))
                  rename World => X
                  clear ho2 hbel
                  by_cases hsm : s < p.rows.length
                  · have hsd : decide ((s : Int) < (p.rows.length : Int)) = true := by simp; omega
                    obtain ⟨ay, e, hcy'⟩ := (HY1.out.below HL3.out).getD_at (k := s) (by simpa [yall] using hsm)
                    cases e
                    rw [yall_at hsm] at hcy'
                    have hayl := World.block_lt_of_cell? _ _ hcy'
                    have e1 := own_cell' HS2.out j _ (gainL_at hjN)
                    have f1 := own_free' HS2.out j
                    have hgl := (HS2.out.lt _ rfl).2
                    rw [addz] at hcy' hayl
                    have s0 : ∀ u : Wk X, u.1.cell? ⟨w.heap.size, 0, none⟩ = some (.slice A p.costs.length c) := fun u => (SC.out _ (HWX.out.trans (u.2.mono HWX.out.size))).1
                    have s1 : ∀ u : Wk X, u.1.cell? ⟨w.heap.size, 1, none⟩ = some (.slice A2 p.rows.length c2) := fun u => (SC.out _ (HWX.out.trans (u.2.mono HWX.out.size))).2
                    have s2 : ∀ u : Wk X, u.1.cell? ⟨Y1.heap.size, j, none⟩ = some (.int .i64 (gk p (nats l) j s)) := fun u => (u.2.cell (p := ⟨Y1.heap.size, j, none⟩) hgl).trans e1
                    have s3 : ∀ u : Wk X, u.1.frozen? ⟨Y1.heap.size, j, none⟩ = false := fun u => (u.2.frozen (p := ⟨Y1.heap.size, j, none⟩) hgl).trans f1
                    have s4 : ∀ u : Wk X, u.1.cell? ⟨w2.heap.size + 1, s, none⟩ = some (.int .i64 (yk p (nats l) s)) := fun u => (u.2.cell hayl).trans hcy'
                    have HC := Lib.hid (show ∀ u : Wk X, Calls Try.prog 83 #[.agg #[.slice A p.costs.length c, .slice A2 p.rows.length c2], .int .i64 s, .int .i64 j] u.1 fun e w' => e = .returned (.int .i64 (hasZ p s j)) ∧ Below u.1.heap.size u.1 w' from
                      fun u => ref3_Has _ _ _ _ _ s j u.1 (HPw.out.below (HWX.out.trans (u.2.mono HWX.out.size))) HM.out hsm (by omega))
                    have HGS := Lib.hid (gk_succ p (nats l) j s)
                    have hb1 := yk_bound (p := p) (l := nats l) HM.out HQ.out.len hsm
                    have hb2 := hasZ_bound HM.out s j
                    have hb3 := gk_bound (p := p) (l := nats l) HM.out HQ.out.len j (n := s) (by omega)
                    have hi0 : (j : Int) < (N : Int) := by omega
                    have hi1 : (s : Int) < (p.rows.length : Int) := by omega
                    generalize gk p (nats l) j s = gv at *
                    generalize yk p (nats l) s = yv at *
                    generalize hasZ p s j = hv at *
                    obtain ⟨hm1, hm2⟩ := mul_bound yv hv 16588800 12 hb1.1 hb1.2 hb2.1 hb2.2
                    have hw1 : IntKind.i64.wrap (yv * hv) = yv * hv := IntWalk.i64_in _ (by omega)
                    have hw2 : IntKind.i64.wrap (gv - yv * hv) = gv - yv * hv := IntWalk.i64_in _ (by omega)
                    clear hm1 hm2 hb1 hb2 hb3 e1 f1 hcy'
                    go_wp2_with fail
                    refine wk_tail 17 (by kernel_rfl) (by kernel_rfl) ?_
                    simp only [List.take_succ_cons, List.take_zero, List.drop_succ_cons, List.drop_zero]
                    repeat (go_big_quiet_step ((go_at_call 83; with_reducible exact wk_call (HC.out _))))
                    refine wpQuiet_nil ?_
                    rintro w7 ⟨u7, rfl⟩
                    go_wp2_with fail
                    go_roundw
                    case rel => exact ⟨s + 1, by omega, by go_num, by rw [HGS.out, ← gainL_set (u := gv), ← map_set_int]; exact own_put (own_below HS2.out u7.2) j _, (HL3.out.trans (u7.2.mono zL3)).setCell (Nat.le_refl _) _⟩
                    case measure => simp [intOf]; omega
                  · obtain rfl : s = p.rows.length := by omega
                    have hsd : decide ((p.rows.length : Int) < (p.rows.length : Int)) = false := by simp
                    go_wp2_with fail
                    go_roundw
                    case rel => exact ⟨j + 1, by omega, by go_num, by rw [← gainL_succ]; exact HS2.out, HL3.out⟩
                    case measure => simp [intOf]; omega
              · obtain rfl : j = N := by omega
                have hjd : decide ((j : Int) < (j : Int)) = false := by simp
                have hlx : (xall p (nats l)).length = j := by rw [HNN.out]; exact length_putAll _ _ _ _
                have hly' : (yall p (nats l)).length = p.rows.length := by simp [yall]
                have hlg : (gall p (nats l)).length = j := by rw [HNN.out]; simp [gall]
                have HF1 := Lib.hid (show ∀ A c w, Rd w A c (xall p (nats l)) → Calls Try.prog 87 #[.slice A j c, .int .i64 dn] w (RetPt w (ptN (xall p (nats l)) dn) (ptD (xall p (nats l)) dn) (ptE (xall p (nats l)) dn)) from
                  fun A c w h => by have := ref1_Point A (xall p (nats l)) c dn w h; rw [hlx] at this; exact this)
                have HF2 := Lib.hid (show ∀ A c w, Rd w A c (yall p (nats l)) → Calls Try.prog 87 #[.slice A p.rows.length c, .int .i64 dn] w (RetPt w (ptN (yall p (nats l)) dn) (ptD (yall p (nats l)) dn) (ptE (yall p (nats l)) dn)) from
                  fun A c w h => by have := ref1_Point A (yall p (nats l)) c dn w h; rw [hly'] at this; exact this)
                have HF3 := Lib.hid (show ∀ A c w, Rd w A c (gall p (nats l)) → Calls Try.prog 87 #[.slice A j c, .int .i64 dn] w (RetPt w (ptN (gall p (nats l)) dn) (ptD (gall p (nats l)) dn) (ptE (gall p (nats l)) dn)) from
                  fun A c w h => by have := ref1_Point A (gall p (nats l)) c dn w h; rw [hlg] at this; exact this)
                have HX5 := Lib.hid (HX1.out.below HL2.out)
                have HY5 := Lib.hid (HY1.out.below HL2.out)
                have HG5 := Lib.hid (show Rd Y2 (some ⟨Y1.heap.size, 0, none⟩) j (gall p (nats l)) from Rd.of_own (base := Y1.heap.size) (e := 2) (by
                  rw [hlg, ← gainL_end]
                  have := HR2.out
                  rw [HNN.out] at this ⊢
                  exact this) (by omega))
                clear hlx hly' hlg q0 q1
                go_wp2_with fail
                refine (HF1.out _ _ _ (by exact HX5.out.alloc _)).mono ?_
                rintro e w4 ⟨X, cx, rfl, hX, hb4, hXn⟩
                have Bc := Blk.next (Blk.mk' Y2 42 #[.slice none 0 0, .int .i64 0, .slice none 0 0, .int .i64 0, .slice none 0 0, .int .i64 0]) hb4
                have b0 := Bc.cell 0
                have b1 := Bc.cell 1
                have b2 := Bc.frozen 0
                have b3 := Bc.frozen 1
                have HBc := Lib.hid Bc
                have HB4 := Lib.hid (show Below Y2.heap.size Y2 w4 from ((Below.refl _ _).alloc (Nat.le_refl _) _).trans (hb4.mono (by simp)))
                have HX6 := Lib.hid hX
                have HXN := Lib.hid hXn
                simp only [List.getElem?_toArray, List.getElem?_cons_zero, List.getElem?_cons_succ] at b0 b1
                clear Bc hX hXn hb4
                go_wp2_with fail
                clear b0 b1 b2 b3
                have zcb : W.heap.size ≤ Y2.heap.size := HW2'.out.size
                have HC5 := Lib.hid ((HBc.out.set0 0 (.slice X (ptN (xall p (nats l)) dn).length cx)).set0 1 (.int .i64 (ptD (xall p (nats l)) dn)))
                have HB5 := Lib.hid ((HB4.out.setCell (p := ⟨Y2.heap.size, 0, none⟩) (Nat.le_refl _) (.slice X (ptN (xall p (nats l)) dn).length cx)).setCell (p := ⟨Y2.heap.size, 1, none⟩) (Nat.le_refl _) (.int .i64 (ptD (xall p (nats l)) dn)))
                have HX7 := Lib.hid ((HX6.out.setCell_out ⟨Y2.heap.size, 0, none⟩ (.slice X (ptN (xall p (nats l)) dn).length cx) (fun ad e => by have := HXN.out ad e; simp at this ⊢; omega)).setCell_out ⟨Y2.heap.size, 1, none⟩ (.int .i64 (ptD (xall p (nats l)) dn)) (fun ad e => by have := HXN.out ad e; simp at this ⊢; omega))
                clear HBc HB4 HX6
                generalize ((w4.setCell ⟨Y2.heap.size, 0, none⟩ (.slice X (ptN (xall p (nats l)) dn).length cx)).setCell ⟨Y2.heap.size, 1, none⟩ (.int .i64 (ptD (xall p (nats l)) dn))) = W5 at *
                refine (HF2.out _ _ _ (by exact HY5.out.below HB5.out)).mono ?_
                rintro e w6 ⟨Yp, cyp, rfl, hYp, hb6, hYn⟩
                have z56 := HB5.out.size
                have HC6 := Lib.hid (HC5.out.next hb6)
                have HB6 := Lib.hid (HB5.out.trans (hb6.mono z56))
                have HX8 := Lib.hid (HX7.out.below hb6)
                have HYP := Lib.hid hYp
                have HYN := Lib.hid hYn
                have lc5 := HC5.out.lt
                have b0 : w6.cell? ⟨Y2.heap.size, 2, none⟩ = some (.slice none 0 0) := HC6.out.cell 2
                have b1 : w6.cell? ⟨Y2.heap.size, 3, none⟩ = some (.int .i64 0) := HC6.out.cell 3
                have b2 := HC6.out.frozen 2
                have b3 := HC6.out.frozen 3
                clear hYp hYn hb6 HC5 HB5 HX7
                go_wp2_with fail
                clear b0 b1 b2 b3
                have HC7 := Lib.hid ((HC6.out.set0 2 (.slice Yp (ptN (yall p (nats l)) dn).length cyp)).set0 3 (.int .i64 (ptD (yall p (nats l)) dn)))
                have HB7 := Lib.hid ((HB6.out.setCell (p := ⟨Y2.heap.size, 2, none⟩) (Nat.le_refl _) (.slice Yp (ptN (yall p (nats l)) dn).length cyp)).setCell (p := ⟨Y2.heap.size, 3, none⟩) (Nat.le_refl _) (.int .i64 (ptD (yall p (nats l)) dn)))
                have HX9 := Lib.hid ((HX8.out.setCell_out ⟨Y2.heap.size, 2, none⟩ (.slice Yp (ptN (yall p (nats l)) dn).length cyp) (fun ad e => by have := HXN.out ad e; simp at this ⊢; omega)).setCell_out ⟨Y2.heap.size, 3, none⟩ (.int .i64 (ptD (yall p (nats l)) dn)) (fun ad e => by have := HXN.out ad e; simp at this ⊢; omega))
                have HYQ := Lib.hid ((HYP.out.setCell_out ⟨Y2.heap.size, 2, none⟩ (.slice Yp (ptN (yall p (nats l)) dn).length cyp) (fun ad e => by have := HYN.out ad e; simp; omega)).setCell_out ⟨Y2.heap.size, 3, none⟩ (.int .i64 (ptD (yall p (nats l)) dn)) (fun ad e => by have := HYN.out ad e; simp; omega))
                clear HC6 HB6 HX8 HYP
                generalize ((w6.setCell ⟨Y2.heap.size, 2, none⟩ (.slice Yp (ptN (yall p (nats l)) dn).length cyp)).setCell ⟨Y2.heap.size, 3, none⟩ (.int .i64 (ptD (yall p (nats l)) dn))) = W7 at *
                refine (HF3.out _ _ _ (by exact HG5.out.below HB7.out)).mono ?_
                rintro e w8 ⟨Gp, cgp, rfl, hGp, hb8, hGn⟩
                have z78 := HB7.out.size
                have HC8 := Lib.hid (HC7.out.next hb8)
                have HB8 := Lib.hid (HB7.out.trans (hb8.mono z78))
                have HX10 := Lib.hid (HX9.out.below hb8)
                have HYR := Lib.hid (HYQ.out.below hb8)
                have HGP := Lib.hid hGp
                have HGN := Lib.hid hGn
                have lc7 := HC7.out.lt
                have b0 : w8.cell? ⟨Y2.heap.size, 0, none⟩ = some (.slice X (ptN (xall p (nats l)) dn).length cx) := HC8.out.cell 0
                have b1 : w8.cell? ⟨Y2.heap.size, 1, none⟩ = some (.int .i64 (ptD (xall p (nats l)) dn)) := HC8.out.cell 1
                have b2 : w8.cell? ⟨Y2.heap.size, 2, none⟩ = some (.slice Yp (ptN (yall p (nats l)) dn).length cyp) := HC8.out.cell 2
                have b3 : w8.cell? ⟨Y2.heap.size, 3, none⟩ = some (.int .i64 (ptD (yall p (nats l)) dn)) := HC8.out.cell 3
                have b4 : w8.cell? ⟨Y2.heap.size, 4, none⟩ = some (.slice none 0 0) := HC8.out.cell 4
                have b5 : w8.cell? ⟨Y2.heap.size, 5, none⟩ = some (.int .i64 0) := HC8.out.cell 5
                have b6 := HC8.out.frozen 4
                have b7 := HC8.out.frozen 5
                have HR8 := Lib.hid (Vr.out.next (HW2'.out.trans (HB8.out.mono zcb)))
                have y0 : w8.cell? ⟨w.heap.size + 1, 0, none⟩ = some (.slice none 0 0) := HR8.out.cell 0
                have y1 : w8.cell? ⟨w.heap.size + 1, 1, none⟩ = some (.int .i64 0) := HR8.out.cell 1
                have y2 : w8.cell? ⟨w.heap.size + 1, 2, none⟩ = some (.slice none 0 0) := HR8.out.cell 2
                have y3 : w8.cell? ⟨w.heap.size + 1, 3, none⟩ = some (.int .i64 0) := HR8.out.cell 3
                have y4 : w8.cell? ⟨w.heap.size + 1, 4, none⟩ = some (.slice none 0 0) := HR8.out.cell 4
                have y5 : w8.cell? ⟨w.heap.size + 1, 5, none⟩ = some (.int .i64 0) := HR8.out.cell 5
                have g0 := HR8.out.frozen 0
                have g1 := HR8.out.frozen 1
                have g2 := HR8.out.frozen 2
                have g3 := HR8.out.frozen 3
                have g4 := HR8.out.frozen 4
                have g5 := HR8.out.frozen 5
                have hrc : w.heap.size + 1 < Y2.heap.size := by omega
                have HWT := Lib.hid (HW.out.trans ((HW2'.out.trans (HB8.out.mono zcb)).mono (by omega)))
                clear hGp hGn hb8
                go_wp2_with fail
                refine bodyPost_ret (v := .tuple #[.agg #[.slice X (ptN (xall p (nats l)) dn).length cx, .int .i64 (ptD (xall p (nats l)) dn), .slice Yp (ptN (yall p (nats l)) dn).length cyp, .int .i64 (ptD (yall p (nats l)) dn), .slice Gp (ptN (gall p (nats l)) dn).length cgp, .int .i64 (ptD (gall p (nats l)) dn)], .bool true]) ?_ ?_ ?_
                · simp [results, Try.results36, go_sem, y0, y1, y2, y3, y4, y5]
                · rfl
                · have hE : lookE p l = 0 := by
                    unfold lookE
                    rw [if_neg (by rw [HM.out]; decide), if_neg (by rw [HRA.out]; decide), if_neg HD0.out]
                  have hC : lookC p l = ⟨ptN (xall p (nats l)) dn, ptD (xall p (nats l)) dn, ptN (yall p (nats l)) dn, ptD (yall p (nats l)) dn, ptN (gall p (nats l)) dn, ptD (gall p (nats l)) dn⟩ := by unfold lookC; rw [if_pos hE, HDN.out]
                  rw [hE, hC]
                  have hfx := HXN.out
                  have hfy := HYN.out
                  have hfg := HGN.out
                  simp only [World.size_alloc] at hfx
                  refine ⟨X, cx, Yp, cyp, Gp, cgp, rfl, ?_, ?_, ?_, ?_, fun ad e => by have := hfg ad e; omega⟩
                  · iterate 8 refine Rd.setCell_out ?_ _ _ (fun ad e => by have := hfx ad e; simp only [ne_eq]; omega)
                    exact HX10.out
                  · iterate 8 refine Rd.setCell_out ?_ _ _ (fun ad e => by have := hfy ad e; simp only [ne_eq]; omega)
                    exact HYR.out
                  · iterate 8 refine Rd.setCell_out ?_ _ _ (fun ad e => by have := hfg ad e; simp only [ne_eq]; omega)
                    exact HGP.out
                  · iterate 8 refine Below.setCell ?_ (by first | (simp; done) | (simp; omega)) _
                    exact HWT.out
theorem ref3_Look (A : Option Addr) (c : Nat) (A2 : Option Addr) (c2 : Nat) (p : PG) (L : Option Addr) (l : List Int) (cl : Nat) (w : World) (hp : Pg w A c A2 c2 p) (hr : Rd w L cl l) (hm : mayPB p = true) (hri : rightA p l = true) :
    Calls Try.prog 36 #[.agg #[.slice A p.costs.length c, .slice A2 p.rows.length c2], .slice L l.length cl] w (RetCb w (lookC p l) (decide (lookE p l = 0))) :=
  (ref3_LookN A c A2 c2 p L l cl w hp hr hm hri).mono fun _ _ h => h.cb
end Go.Proofs.Ytjcdkbalhleeeab
