/-
  Walk: the document's Holds, of a program that may not be.
-/
import Derived.Test.YtjcdkbalhleeeabRef4
namespace Go.Proofs.Ytjcdkbalhleeeab
open Go.RowKit
set_option maxRecDepth 100000 in
set_option maxHeartbeats 1000000 in
theorem ref4_no (A : Option Addr) (c : Nat) (A2 : Option Addr) (c2 : Nat) (p : PG) (X : Option Addr) (cx : Nat) (Y : Option Addr) (cy : Nat) (R : Option Addr) (cr : Nat) (kd : Int) (xs : List Int) (xd : Int) (ys : List Int) (yd : Int) (rs : List Int) (rd wn wd : Int) (w : World)
    (hp : Pg w A c A2 c2 p) (hm : mayPB p = false) :
    Calls Try.prog 24 #[.agg #[.slice A p.costs.length c, .slice A2 p.rows.length c2],
      .agg #[.int .i64 kd, .slice X xs.length cx, .int .i64 xd, .slice Y ys.length cy, .int .i64 yd, .slice R rs.length cr, .int .i64 rd, .int .i64 wn, .int .i64 wd]] w
      fun e w' => e = .returned (.bool false) ∧ Below w.heap.size w w' := by
  have HP := Lib.hid hp
  obtain ⟨⟨hl, hc, hsm, _⟩, ⟨hl2, hc2, hsm2, _⟩⟩ := hp
  go_enter Try.func24, Try.ntmps24
  go_wp2_with fail
  refine (ref2_May _ _ _ _ _ _ (by exact HP.out.below (by (repeat (any_goals (first | exact Below.refl _ _ | refine below_drewN ?_ _ | refine Below.drew ?_ | refine Below.alloc ?_ ?_ _ | refine Below.setCell ?_ ?_ _))); all_goals (first | omega | (simp; done) | (simp; omega))))).mono ?_
  rintro e w1 ⟨rfl, hb1⟩
  rw [hm]
  have HB1 := Lib.hid hb1
  clear hb1
  go_wp2_with fail
  go_ret
  exact ⟨rfl, (by (repeat (any_goals (first | exact Below.refl _ _ | exact HB1.out | refine below_drewN ?_ _ | refine Below.drew ?_ | refine Below.alloc ?_ ?_ _ | refine Below.setCell ?_ ?_ _ | refine Below.trans ?_ (Below.mono HB1.out ?_)))); all_goals (first | omega | (simp; done) | (simp; omega) | ((try have z0 := HB1.out.size); (try simp at z0); (try simp); omega)))⟩
end Go.Proofs.Ytjcdkbalhleeeab
