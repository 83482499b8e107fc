import Derived.Test.YtcgjkdfgemjidaaSxC
import Derived.Test.YtcgjkdfgemjidaaData
import Derived.Test.YtcgjkdfgemjidaaSxR
set_option linter.unusedVariables false
namespace Go.Proofs.Ytcgjkdfgemjidaa
open Go Go.Sx Go.Proofs Go.ChangeShapes Go.WideShapes Go.RowKit
set_option maxRecDepth 100000

theorem cells3 : Try.prog.cellsOf 3 = 1 := by kernel_rfl
theorem opens3 : Opens Try.prog 3 Int := Opens.int Try.underlying3 cells3
theorem cells2 : Try.prog.cellsOf 2 = 1 := by kernel_rfl
theorem opens2 : Opens Try.prog 2 Int := Opens.int Try.underlying2 cells2
theorem cells9 : Try.prog.cellsOf 9 = 1 := by kernel_rfl
theorem opens9 : Opens Try.prog 9 ByteArray := Opens.str Try.underlying9 cells9
theorem cells29 : Try.prog.cellsOf 29 = 1 := by kernel_rfl
theorem opens29 : Opens Try.prog 29 Int := Opens.int Try.underlying29 cells29
theorem cells31 : Try.prog.cellsOf 31 = 6 := by kernel_rfl
theorem opens31 : Opens Try.prog 31 Step := ⟨cells31, fun H enc w base spare held fuel cs y h => by
  obtain ⟨xs, n, _, _, hl, hxl, hf⟩ := DataW.trod_struct Try.underlying31 h
  rw [cells31] at hl
  have hxs : xs.length = 6 := hxl
  match cs, hl with
  | [c0, c1, c2, c3, c4, c5], _ =>
    have g0 := hf 0 _ rfl
    rw [List.getElem?_eq_getElem (show 0 < xs.length by omega)] at g0
    obtain ⟨x0, e0⟩ := opens2.2 _ _ _ _ _ _ _ _ _ g0
    replace e0 : Rep.rel (wh w) x0 [c0] := e0
    have g1 := hf 1 _ rfl
    rw [List.getElem?_eq_getElem (show 1 < xs.length by omega)] at g1
    obtain ⟨x1, e1⟩ := opens3.2 _ _ _ _ _ _ _ _ _ g1
    replace e1 : Rep.rel (wh w) x1 [c1] := e1
    have g2 := hf 2 _ rfl
    rw [List.getElem?_eq_getElem (show 2 < xs.length by omega)] at g2
    obtain ⟨x2, e2⟩ := opens3.2 _ _ _ _ _ _ _ _ _ g2
    replace e2 : Rep.rel (wh w) x2 [c2] := e2
    have g3 := hf 3 _ rfl
    rw [List.getElem?_eq_getElem (show 3 < xs.length by omega)] at g3
    obtain ⟨x3, e3⟩ := opens3.2 _ _ _ _ _ _ _ _ _ g3
    replace e3 : Rep.rel (wh w) x3 [c3] := e3
    have g4 := hf 4 _ rfl
    rw [List.getElem?_eq_getElem (show 4 < xs.length by omega)] at g4
    obtain ⟨x4, e4⟩ := opens3.2 _ _ _ _ _ _ _ _ _ g4
    replace e4 : Rep.rel (wh w) x4 [c4] := e4
    have g5 := hf 5 _ rfl
    rw [List.getElem?_eq_getElem (show 5 < xs.length by omega)] at g5
    obtain ⟨x5, e5⟩ := opens3.2 _ _ _ _ _ _ _ _ _ g5
    replace e5 : Rep.rel (wh w) x5 [c5] := e5
    obtain ⟨q0, o0⟩ := e0
    cases q0
    obtain ⟨q1, o1⟩ := e1
    cases q1
    obtain ⟨q2, o2⟩ := e2
    cases q2
    obtain ⟨q3, o3⟩ := e3
    cases q3
    obtain ⟨q4, o4⟩ := e4
    cases q4
    obtain ⟨q5, o5⟩ := e5
    cases q5
    exact ⟨⟨x0, x1, x2, x3, x4, x5⟩, ⟨o0, o1, o2, o3, o4, o5⟩, rfl⟩⟩
theorem cells33 : Try.prog.cellsOf 33 = 12 := by kernel_rfl
theorem opens33 : Opens Try.prog 33 Event := ⟨cells33, fun H enc w base spare held fuel cs y h => by
  obtain ⟨xs, n, _, _, hl, hxl, hf⟩ := DataW.trod_struct Try.underlying33 h
  rw [cells33] at hl
  have hxs : xs.length = 7 := hxl
  match cs, hl with
  | [c0, c1, c2, c3, c4, c5, c6, c7, c8, c9, c10, c11], _ =>
    have g0 := hf 0 _ rfl
    rw [List.getElem?_eq_getElem (show 0 < xs.length by omega)] at g0
    obtain ⟨x0, e0⟩ := opens3.2 _ _ _ _ _ _ _ _ _ g0
    replace e0 : Rep.rel (wh w) x0 [c0] := e0
    have g1 := hf 1 _ rfl
    rw [List.getElem?_eq_getElem (show 1 < xs.length by omega)] at g1
    obtain ⟨x1, e1⟩ := opens3.2 _ _ _ _ _ _ _ _ _ g1
    replace e1 : Rep.rel (wh w) x1 [c1] := e1
    have g2 := hf 2 _ rfl
    rw [List.getElem?_eq_getElem (show 2 < xs.length by omega)] at g2
    obtain ⟨x2, e2⟩ := opens3.2 _ _ _ _ _ _ _ _ _ g2
    replace e2 : Rep.rel (wh w) x2 [c2] := e2
    have g3 := hf 3 _ rfl
    rw [List.getElem?_eq_getElem (show 3 < xs.length by omega)] at g3
    obtain ⟨x3, e3⟩ := opens2.2 _ _ _ _ _ _ _ _ _ g3
    replace e3 : Rep.rel (wh w) x3 [c3] := e3
    have g4 := hf 4 _ rfl
    rw [List.getElem?_eq_getElem (show 4 < xs.length by omega)] at g4
    obtain ⟨x4, e4⟩ := opens9.2 _ _ _ _ _ _ _ _ _ g4
    replace e4 : Rep.rel (wh w) x4 [c4] := e4
    have g5 := hf 5 _ rfl
    rw [List.getElem?_eq_getElem (show 5 < xs.length by omega)] at g5
    obtain ⟨x5, e5⟩ := opens29.2 _ _ _ _ _ _ _ _ _ g5
    replace e5 : Rep.rel (wh w) x5 [c5] := e5
    have g6 := hf 6 _ rfl
    rw [List.getElem?_eq_getElem (show 6 < xs.length by omega)] at g6
    obtain ⟨x6, e6⟩ := opens31.2 _ _ _ _ _ _ _ _ _ g6
    replace e6 : Rep.rel (wh w) x6 [c6, c7, c8, c9, c10, c11] := e6
    obtain ⟨q0, o0⟩ := e0
    cases q0
    obtain ⟨q1, o1⟩ := e1
    cases q1
    obtain ⟨q2, o2⟩ := e2
    cases q2
    obtain ⟨q3, o3⟩ := e3
    cases q3
    obtain ⟨q4, o4⟩ := e4
    cases q4
    obtain ⟨q5, o5⟩ := e5
    cases q5
    obtain ⟨o6, q6⟩ := e6
    cases q6
    exact ⟨⟨x0, x1, x2, x3, x4, x5, x6⟩, ⟨o0, o1, o2, o3, o4, o5, o6⟩, rfl⟩⟩
theorem cells22 : Try.prog.cellsOf 22 = 1 := by kernel_rfl
theorem opens22 : Opens Try.prog 22 (List Event) := Opens.slice opens33 Try.underlying22 cells22
end Go.Proofs.Ytcgjkdfgemjidaa
