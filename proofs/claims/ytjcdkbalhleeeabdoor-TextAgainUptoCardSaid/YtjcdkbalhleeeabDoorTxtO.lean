/-
  Words for what Parse hands back: two results out of two boxes. No condition.
-/
import Derived.Test.YtjcdkbalhleeeabDoorTxtG
import Derived.Test.YtjcdkbalhleeeabDoorRwB
namespace Go.Proofs.YtjcdkbalhleeeabDoor
open Go.Proofs Go.RowKit
open Go.Lib (itoa join)

/-- What a text is read as is handed back. -/
def RetPr (w : World) (r : PG × Int × Nat) (e : Ending) (w' : World) : Prop :=
  Below w.heap.size w w' ∧ ∃ A c A2 c2, e = .returned (.tuple #[.agg #[.slice A r.1.costs.length c, .slice A2 r.1.rows.length c2], .agg #[.int .i64 r.2.1, .int .i64 (r.2.2 : Nat)]]) ∧ Pg w' A c A2 c2 r.1

set_option maxRecDepth 100000 in
theorem post_two {fn : Func} (hres : fn.results = #[.cell 2 25, .cell 3 32]) {R : Ending → World → Prop} {a : Act} {Y : World} {b2 b3 : Nat} {X0 : Option Addr} {n0 c0 : Nat} {X1 : Option Addr} {n1 c1 : Nat} {y0 y1 : Int}
    (h2 : a.tmps.getD 2 undef = .pointer (some ⟨b2, 0, none⟩)) (h3 : a.tmps.getD 3 undef = .pointer (some ⟨b3, 0, none⟩)) (hB2 : Blk Y b2 25 #[.slice X0 n0 c0, .slice X1 n1 c1]) (hB3 : Blk Y b3 32 #[.int .i64 y0, .int .i64 y1]) (hd : a.defers = [])
    (hR : R (.returned (.tuple #[.agg #[.slice X0 n0 c0, .slice X1 n1 c1], .agg #[.int .i64 y0, .int .i64 y1]])) Y) : bodyPost Tryd.prog fn R .ret a Y := by
  have c0 := hB2.cell 0
  have c1 := hB2.cell 1
  have d0 := hB3.cell 0
  have d1 := hB3.cell 1
  simp at c0 c1 d0 d1
  refine bodyPost_ret ?_ hd hR
  have e2 : a.tmps[2]?.getD undef = .pointer (some ⟨b2, 0, none⟩) := by rw [← h2]; simp
  have e3 : a.tmps[3]?.getD undef = .pointer (some ⟨b3, 0, none⟩) := by rw [← h3]; simp
  simp [results, hres, go_sem, e2, e3, c0, c1, d0, d1]
theorem Pg.nil (w : World) : Pg w none 0 none 0 ⟨[], []⟩ := ⟨Rd.nil w, ⟨by simp, by omega, by simp, fun h => by simp at h⟩⟩
end Go.Proofs.YtjcdkbalhleeeabDoor
