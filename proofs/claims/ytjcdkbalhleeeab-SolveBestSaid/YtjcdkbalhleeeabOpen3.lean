/-
  An answer that a law is handed, opened to plain lists. No condition but the form's own reach.
-/
import Derived.Test.YtjcdkbalhleeeabOpen2
import Derived.Test.YtjcdkbalhleeeabPrf2
namespace Go.Proofs.Ytjcdkbalhleeeab
open Go.RowKit Go.WideShapes Go.ChangeShapes Go.Deep
section
variable {H : Type} {enc : TypeId × Value → H} {w : World} {n : Nat}
set_option maxRecDepth 100000 in
theorem rd_five {t : TypeId} {f0 f1 f2 f3 f4 : Field} {cs : List Value} {x : DataW H × List MemPlace} (ht : Try.prog.underlying t = some (.struct #[f0, f1, f2, f3, f4])) (h : DataW.trod enc Try.prog w 0 (fun _ => true) true n t cs = some x) (hs : Sized Try.prog t x.1) :
    ∃ (y0 y1 y2 y3 y4 : DataW H × List MemPlace) (m : Nat), cs.length = Try.prog.cellsOf t ∧ DataW.trod enc Try.prog w 0 (fun _ => true) true m f0.type ((cs.drop f0.offset).take (Try.prog.cellsOf f0.type)) = some y0 ∧
      DataW.trod enc Try.prog w 0 (fun _ => true) true m f1.type ((cs.drop f1.offset).take (Try.prog.cellsOf f1.type)) = some y1 ∧
      DataW.trod enc Try.prog w 0 (fun _ => true) true m f2.type ((cs.drop f2.offset).take (Try.prog.cellsOf f2.type)) = some y2 ∧
      DataW.trod enc Try.prog w 0 (fun _ => true) true m f3.type ((cs.drop f3.offset).take (Try.prog.cellsOf f3.type)) = some y3 ∧
      DataW.trod enc Try.prog w 0 (fun _ => true) true m f4.type ((cs.drop f4.offset).take (Try.prog.cellsOf f4.type)) = some y4 ∧
      Sized Try.prog f1.type y1.1 ∧ Sized Try.prog f2.type y2.1 ∧ Sized Try.prog f3.type y3.1 ∧ Sized Try.prog f4.type y4.1 := by
  obtain ⟨xs, m, _, rfl, hl, hx, hi⟩ := DataW.trod_struct ht h
  match xs, hx with
  | [y0, y1, y2, y3, y4], _ =>
    exact ⟨y0, y1, y2, y3, y4, m, hl, hi 0 f0 rfl, hi 1 f1 rfl, hi 2 f2 rfl, hi 3 f3 rfl, hi 4 f4 rfl, sized_part ht hs (j := 1) rfl rfl, sized_part ht hs (j := 2) rfl rfl, sized_part ht hs (j := 3) rfl rfl, sized_part ht hs (j := 4) rfl rfl⟩
theorem cells_ans : Try.prog.cellsOf 57 = 9 := by kernel_rfl
theorem cells_int' : Try.prog.cellsOf 3 = 1 := by kernel_rfl
theorem list9 {α : Type} {l : List α} (h : l.length = 9) : ∃ a0 a1 a2 a3 a4 a5 a6 a7 a8, l = [a0, a1, a2, a3, a4, a5, a6, a7, a8] := by
  match l, h with
  | [a0, a1, a2, a3, a4, a5, a6, a7, a8], _ => exact ⟨_, _, _, _, _, _, _, _, _, rfl⟩

set_option maxRecDepth 100000 in
theorem op_ans {r : Reach} {b0 : Nat} {v : Value} {d : DataW H} {p : List MemPlace} (hv : Value.okWide Try.prog w r b0 57 v) (h : DataW.Trod enc Try.prog w 0 (fun _ => true) true 57 v d p) (hs : Sized Try.prog 57 d) :
    ∃ X cx Y cy R cr a, v = .agg #[.int .i64 a.kind, .slice X a.xs.length cx, .int .i64 a.xd, .slice Y a.ys.length cy, .int .i64 a.yd, .slice R a.rs.length cr, .int .i64 a.rd, .int .i64 a.wn, .int .i64 a.wd] ∧ An w X cx Y cy R cr a := by
  obtain ⟨⟨cs⟩, rfl, hl⟩ := okWide_struct Try.underlying57 hv
  obtain ⟨fuel, hf⟩ := h
  obtain ⟨y0, y1, y2, y3, y4, m, hl', h0, h1, h2, h3, h4, s1, s2, s3, s4⟩ := rd_five Try.underlying57 hf hs
  obtain ⟨a0, a1, a2, a3, a4, a5, a6, a7, a8, hcs⟩ := list9 (hl'.trans cells_ans)
  simp only [Value.cells] at hcs
  subst hcs
  simp only [Value.cells, cells_int', cells_point, cells_frac] at h0 h1 h2 h3 h4
  obtain ⟨k, hk, _⟩ := rd_int Try.underlying3 h0
  obtain ⟨X, cx, xs, xd, e1, r1, _⟩ := rd_point h1 s1
  obtain ⟨Y, cy, ys, yd, e2, r2, _⟩ := rd_point h2 s2
  obtain ⟨R, cr, rs, rd, e3, r3, _⟩ := rd_point h3 s3
  obtain ⟨wn, wd, e4⟩ := rd_frac h4 s4
  simp at hk e1 e2 e3 e4
  obtain ⟨e1, e1'⟩ := e1
  obtain ⟨e2, e2'⟩ := e2
  obtain ⟨e3, e3'⟩ := e3
  obtain ⟨e4, e4'⟩ := e4
  refine ⟨X, cx, Y, cy, R, cr, ⟨k, xs, xd, ys, yd, rs, rd, wn, wd⟩, ?_, ⟨r1, r2, r3⟩⟩
  rw [hk, e1, e1', e2, e2', e3, e3', e4, e4']
end
theorem cells_int : Try.prog.cellsOf 3 = 1 := by kernel_rfl
theorem bytes_int : Try.prog.bytesOf 3 = 8 := by kernel_rfl
end Go.Proofs.Ytjcdkbalhleeeab
