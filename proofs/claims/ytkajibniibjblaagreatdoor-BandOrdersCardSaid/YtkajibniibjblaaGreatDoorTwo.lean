/-
  The law's Two, by value, opened: eight numbers.
-/
import Derived.Test.YtkajibniibjblaaGreatDoorRows
import Derived.ProofKit
import Derived.ChangeSame
import Derived.OpenShut
import Derived.Lib.SmallJoins
namespace Go.Proofs.YtkajibniibjblaaGreatDoor
open Go.ChangeShapes Go.WideShapes Go.ChangeAt Go.WideMaps Go.WideElems Go.RowKit Go.Joins

theorem array8 {α : Type} {cs : Array α} (h : cs.size = 8) : ∃ c0 c1 c2 c3 c4 c5 c6 c7, cs = #[c0, c1, c2, c3, c4, c5, c6, c7] := by
  obtain ⟨l⟩ := cs
  match l, h with
  | [c0, c1, c2, c3, c4, c5, c6, c7], _ => exact ⟨c0, c1, c2, c3, c4, c5, c6, c7, rfl⟩

set_option maxRecDepth 100000
section
variable {H : Type} {enc : TypeId × Value → H} {W : World} {base : Nat} {spare : Nat → Bool} {held : Bool}
theorem open_band {n : Nat} {c0 c1 : Value} {y : DataW H × List MemPlace} (h : DataW.trod enc Tryz.prog W base spare held n 23 [c0, c1] = some y) :
    ∃ a b, c0 = .int .i64 a ∧ c1 = .int .i64 b ∧ (Lit.int .i64 a).wf = true ∧ (Lit.int .i64 b).wf = true := by
  obtain ⟨y0, y1, m, -, -, h0, h1⟩ := trod_struct2 Tryz.underlying23 h
  obtain ⟨a, e0, _, wa⟩ := DataW.trod_int Tryz.underlying3 h0
  obtain ⟨b, e1, _, wb⟩ := DataW.trod_int Tryz.underlying3 h1
  have s1 : Tryz.prog.cellsOf 3 = 1 := by kernel_rfl
  simp [s1] at e0 e1
  exact ⟨a, b, e0, e1, wa, wb⟩
theorem open_draft {n : Nat} {c0 c1 : Value} {y : DataW H × List MemPlace} (h : DataW.trod enc Tryz.prog W base spare held n 26 [c0, c1] = some y) :
    ∃ a b, c0 = .int .i64 a ∧ c1 = .int .u32 b ∧ (Lit.int .i64 a).wf = true ∧ (Lit.int .u32 b).wf = true := by
  obtain ⟨y0, y1, m, -, -, h0, h1⟩ := trod_struct2 Tryz.underlying26 h
  obtain ⟨a, e0, _, wa⟩ := DataW.trod_int Tryz.underlying2 h0
  obtain ⟨b, e1, _, wb⟩ := DataW.trod_int Tryz.underlying24 h1
  have s1 : Tryz.prog.cellsOf 2 = 1 := by kernel_rfl
  have s2 : Tryz.prog.cellsOf 24 = 1 := by kernel_rfl
  simp [s1, s2] at e0 e1
  exact ⟨a, b, e0, e1, wa, wb⟩
theorem open_two {r : Reach} {b0 : Nat} {v : Value} {d : DataW H} {p : List MemPlace} (hv : Value.okWide Tryz.prog W r b0 28 v) (h : DataW.Trod enc Tryz.prog W base spare held 28 v d p) :
    ∃ a0 a1 b0 b1 ax ux ay uy : Int, v = .agg #[.int .i64 a0, .int .i64 a1, .int .i64 b0, .int .i64 b1, .int .i64 ax, .int .u32 ux, .int .i64 ay, .int .u32 uy] ∧
      (Lit.int .i64 a0).wf = true ∧ (Lit.int .i64 a1).wf = true ∧ (Lit.int .i64 b0).wf = true ∧ (Lit.int .i64 b1).wf = true ∧ (Lit.int .i64 ax).wf = true ∧ (Lit.int .u32 ux).wf = true ∧ (Lit.int .i64 ay).wf = true ∧ (Lit.int .u32 uy).wf = true := by
  obtain ⟨cs, rfl, hsz⟩ := okWide_struct Tryz.underlying28 hv
  obtain ⟨c0, c1, c2, c3, c4, c5, c6, c7, rfl⟩ := array8 (hsz.trans (show Tryz.prog.cellsOf 28 = 8 by kernel_rfl))
  obtain ⟨fuel, hf⟩ := h
  obtain ⟨y0, y1, y2, y3, n, -, -, h0, h1, h2, h3⟩ := trod_struct4 Tryz.underlying28 hf
  have s1 : Tryz.prog.cellsOf 23 = 2 := by kernel_rfl
  have s2 : Tryz.prog.cellsOf 26 = 2 := by kernel_rfl
  simp [Value.cells, s1, s2] at h0 h1 h2 h3
  obtain ⟨a0, a1, rfl, rfl, w0, w1⟩ := open_band h0
  obtain ⟨b0, b1, rfl, rfl, w2, w3⟩ := open_band h1
  obtain ⟨ax, ux, rfl, rfl, w4, w5⟩ := open_draft h2
  obtain ⟨ay, uy, rfl, rfl, w6, w7⟩ := open_draft h3
  exact ⟨a0, a1, b0, b1, ax, ux, ay, uy, rfl, w0, w1, w2, w3, w4, w5, w6, w7⟩
end
end Go.Proofs.YtkajibniibjblaaGreatDoor
