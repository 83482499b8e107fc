import Derived.Test.YtebjpeonbfhdhaaGreatSxC
import Derived.Test.YtebjpeonbfhdhaaGreatData
import Derived.Test.YtebjpeonbfhdhaaGreatSxR
set_option linter.unusedVariables false
namespace Go.Proofs.YtebjpeonbfhdhaaGreat
open Go Go.Sx Go.Proofs Go.ChangeShapes Go.WideShapes Go.RowKit
set_option maxRecDepth 100000

theorem cells3 : Tryz.prog.cellsOf 3 = 1 := by kernel_rfl
theorem opens3 : Opens Tryz.prog 3 Int := Opens.int Tryz.underlying3 cells3
theorem cells23 : Tryz.prog.cellsOf 23 = 6 := by kernel_rfl
theorem opens23 : Opens Tryz.prog 23 Setup := ⟨cells23, fun H enc w base spare held fuel cs y h => by
  obtain ⟨xs, n, _, _, hl, hxl, hf⟩ := DataW.trod_struct Tryz.underlying23 h
  rw [cells23] at hl
  have hxs : xs.length = 6 := hxl
  match cs, hl with
  | [c0, c1, c2, c3, c4, c5], _ =>
    have g0 := hf 0 _ rfl
    rw [List.getElem?_eq_getElem (show 0 < xs.length by omega)] at g0
    obtain ⟨x0, e0⟩ := opens3.2 _ _ _ _ _ _ _ _ _ g0
    replace e0 : Rep.rel (wh w) x0 [c0] := e0
    have g1 := hf 1 _ rfl
    rw [List.getElem?_eq_getElem (show 1 < xs.length by omega)] at g1
    obtain ⟨x1, e1⟩ := opens3.2 _ _ _ _ _ _ _ _ _ g1
    replace e1 : Rep.rel (wh w) x1 [c1] := e1
    have g2 := hf 2 _ rfl
    rw [List.getElem?_eq_getElem (show 2 < xs.length by omega)] at g2
    obtain ⟨x2, e2⟩ := opens3.2 _ _ _ _ _ _ _ _ _ g2
    replace e2 : Rep.rel (wh w) x2 [c2] := e2
    have g3 := hf 3 _ rfl
    rw [List.getElem?_eq_getElem (show 3 < xs.length by omega)] at g3
    obtain ⟨x3, e3⟩ := opens3.2 _ _ _ _ _ _ _ _ _ g3
    replace e3 : Rep.rel (wh w) x3 [c3] := e3
    have g4 := hf 4 _ rfl
    rw [List.getElem?_eq_getElem (show 4 < xs.length by omega)] at g4
    obtain ⟨x4, e4⟩ := opens3.2 _ _ _ _ _ _ _ _ _ g4
    replace e4 : Rep.rel (wh w) x4 [c4] := e4
    have g5 := hf 5 _ rfl
    rw [List.getElem?_eq_getElem (show 5 < xs.length by omega)] at g5
    obtain ⟨x5, e5⟩ := opens3.2 _ _ _ _ _ _ _ _ _ g5
    replace e5 : Rep.rel (wh w) x5 [c5] := e5
    obtain ⟨q0, o0⟩ := e0
    cases q0
    obtain ⟨q1, o1⟩ := e1
    cases q1
    obtain ⟨q2, o2⟩ := e2
    cases q2
    obtain ⟨q3, o3⟩ := e3
    cases q3
    obtain ⟨q4, o4⟩ := e4
    cases q4
    obtain ⟨q5, o5⟩ := e5
    cases q5
    exact ⟨⟨x0, x1, x2, x3, x4, x5⟩, ⟨o0, o1, o2, o3, o4, o5⟩, rfl⟩⟩
theorem cells9 : Tryz.prog.cellsOf 9 = 1 := by kernel_rfl
theorem opens9 : Opens Tryz.prog 9 ByteArray := Opens.str Tryz.underlying9 cells9
theorem cells2 : Tryz.prog.cellsOf 2 = 1 := by kernel_rfl
theorem opens2 : Opens Tryz.prog 2 Int := Opens.int Tryz.underlying2 cells2
theorem cells99 : Tryz.prog.cellsOf 99 = 2 := by kernel_rfl
theorem opens99 : Opens Tryz.prog 99 Arm := ⟨cells99, fun H enc w base spare held fuel cs y h => by
  obtain ⟨xs, n, _, _, hl, hxl, hf⟩ := DataW.trod_struct Tryz.underlying99 h
  rw [cells99] at hl
  have hxs : xs.length = 2 := hxl
  match cs, hl with
  | [c0, c1], _ =>
    have g0 := hf 0 _ rfl
    rw [List.getElem?_eq_getElem (show 0 < xs.length by omega)] at g0
    obtain ⟨x0, e0⟩ := opens9.2 _ _ _ _ _ _ _ _ _ g0
    replace e0 : Rep.rel (wh w) x0 [c0] := e0
    have g1 := hf 1 _ rfl
    rw [List.getElem?_eq_getElem (show 1 < xs.length by omega)] at g1
    obtain ⟨x1, e1⟩ := opens3.2 _ _ _ _ _ _ _ _ _ g1
    replace e1 : Rep.rel (wh w) x1 [c1] := e1
    obtain ⟨q0, o0⟩ := e0
    cases q0
    obtain ⟨q1, o1⟩ := e1
    cases q1
    exact ⟨⟨x0, x1⟩, ⟨o0, o1⟩, rfl⟩⟩
theorem cells54 : Tryz.prog.cellsOf 54 = 1 := by kernel_rfl
theorem opens54 : Opens Tryz.prog 54 (List Arm) := Opens.slice opens99 Tryz.underlying54 cells54
theorem cells56 : Tryz.prog.cellsOf 56 = 7 := by kernel_rfl
theorem opens56 : Opens Tryz.prog 56 Op := ⟨cells56, fun H enc w base spare held fuel cs y h => by
  obtain ⟨xs, n, _, _, hl, hxl, hf⟩ := DataW.trod_struct Tryz.underlying56 h
  rw [cells56] at hl
  have hxs : xs.length = 7 := hxl
  match cs, hl with
  | [c0, c1, c2, c3, c4, c5, c6], _ =>
    have g0 := hf 0 _ rfl
    rw [List.getElem?_eq_getElem (show 0 < xs.length by omega)] at g0
    obtain ⟨x0, e0⟩ := opens3.2 _ _ _ _ _ _ _ _ _ g0
    replace e0 : Rep.rel (wh w) x0 [c0] := e0
    have g1 := hf 1 _ rfl
    rw [List.getElem?_eq_getElem (show 1 < xs.length by omega)] at g1
    obtain ⟨x1, e1⟩ := opens9.2 _ _ _ _ _ _ _ _ _ g1
    replace e1 : Rep.rel (wh w) x1 [c1] := e1
    have g2 := hf 2 _ rfl
    rw [List.getElem?_eq_getElem (show 2 < xs.length by omega)] at g2
    obtain ⟨x2, e2⟩ := opens2.2 _ _ _ _ _ _ _ _ _ g2
    replace e2 : Rep.rel (wh w) x2 [c2] := e2
    have g3 := hf 3 _ rfl
    rw [List.getElem?_eq_getElem (show 3 < xs.length by omega)] at g3
    obtain ⟨x3, e3⟩ := opens3.2 _ _ _ _ _ _ _ _ _ g3
    replace e3 : Rep.rel (wh w) x3 [c3] := e3
    have g4 := hf 4 _ rfl
    rw [List.getElem?_eq_getElem (show 4 < xs.length by omega)] at g4
    obtain ⟨x4, e4⟩ := opens54.2 _ _ _ _ _ _ _ _ _ g4
    replace e4 : Rep.rel (wh w) x4 [c4] := e4
    have g5 := hf 5 _ rfl
    rw [List.getElem?_eq_getElem (show 5 < xs.length by omega)] at g5
    obtain ⟨x5, e5⟩ := opens3.2 _ _ _ _ _ _ _ _ _ g5
    replace e5 : Rep.rel (wh w) x5 [c5] := e5
    have g6 := hf 6 _ rfl
    rw [List.getElem?_eq_getElem (show 6 < xs.length by omega)] at g6
    obtain ⟨x6, e6⟩ := opens3.2 _ _ _ _ _ _ _ _ _ g6
    replace e6 : Rep.rel (wh w) x6 [c6] := e6
    obtain ⟨q0, o0⟩ := e0
    cases q0
    obtain ⟨q1, o1⟩ := e1
    cases q1
    obtain ⟨q2, o2⟩ := e2
    cases q2
    obtain ⟨q3, o3⟩ := e3
    cases q3
    obtain ⟨ao4, ca4, q4, l4, r4⟩ := e4
    cases q4
    obtain ⟨q5, o5⟩ := e5
    cases q5
    obtain ⟨q6, o6⟩ := e6
    cases q6
    exact ⟨⟨x0, x1, x2, x3, x4, x5, x6⟩, ⟨o0, o1, o2, o3, o5, o6⟩, ao4, ca4, rfl, l4, r4⟩⟩
theorem cells24 : Tryz.prog.cellsOf 24 = 1 := by kernel_rfl
theorem opens24 : Opens Tryz.prog 24 (List Op) := Opens.slice opens56 Tryz.underlying24 cells24
theorem cells26 : Tryz.prog.cellsOf 26 = 4 := by kernel_rfl
theorem opens26 : Opens Tryz.prog 26 Prog := ⟨cells26, fun H enc w base spare held fuel cs y h => by
  obtain ⟨xs, n, _, _, hl, hxl, hf⟩ := DataW.trod_struct Tryz.underlying26 h
  rw [cells26] at hl
  have hxs : xs.length = 4 := hxl
  match cs, hl with
  | [c0, c1, c2, c3], _ =>
    have g0 := hf 0 _ rfl
    rw [List.getElem?_eq_getElem (show 0 < xs.length by omega)] at g0
    obtain ⟨x0, e0⟩ := opens9.2 _ _ _ _ _ _ _ _ _ g0
    replace e0 : Rep.rel (wh w) x0 [c0] := e0
    have g1 := hf 1 _ rfl
    rw [List.getElem?_eq_getElem (show 1 < xs.length by omega)] at g1
    obtain ⟨x1, e1⟩ := opens2.2 _ _ _ _ _ _ _ _ _ g1
    replace e1 : Rep.rel (wh w) x1 [c1] := e1
    have g2 := hf 2 _ rfl
    rw [List.getElem?_eq_getElem (show 2 < xs.length by omega)] at g2
    obtain ⟨x2, e2⟩ := opens3.2 _ _ _ _ _ _ _ _ _ g2
    replace e2 : Rep.rel (wh w) x2 [c2] := e2
    have g3 := hf 3 _ rfl
    rw [List.getElem?_eq_getElem (show 3 < xs.length by omega)] at g3
    obtain ⟨x3, e3⟩ := opens24.2 _ _ _ _ _ _ _ _ _ g3
    replace e3 : Rep.rel (wh w) x3 [c3] := e3
    obtain ⟨q0, o0⟩ := e0
    cases q0
    obtain ⟨q1, o1⟩ := e1
    cases q1
    obtain ⟨q2, o2⟩ := e2
    cases q2
    obtain ⟨ao3, ca3, q3, l3, r3⟩ := e3
    cases q3
    exact ⟨⟨x0, x1, x2, x3⟩, ⟨o0, o1, o2⟩, ao3, ca3, rfl, l3, r3⟩⟩
end Go.Proofs.YtebjpeonbfhdhaaGreat
