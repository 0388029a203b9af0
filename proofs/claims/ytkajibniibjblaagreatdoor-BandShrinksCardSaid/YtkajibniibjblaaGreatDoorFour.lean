/-
  The law's four cuts (an array of four uint16, by value), opened.
-/
import Derived.Test.YtkajibniibjblaaGreatDoorRows
import Derived.ProofKit
import Derived.ChangeSame
import Derived.OpenShut
import Derived.Lib.SmallJoins
import Derived.Laws.IdiomArrays
namespace Go.Proofs.YtkajibniibjblaaGreatDoor
open Go.ChangeShapes Go.WideShapes Go.ChangeAt Go.WideMaps Go.WideElems Go.RowKit Go.Joins
set_option maxRecDepth 100000

theorem open_four {H : Type} {enc : TypeId × Value → H} {W : World} {base : Nat} {spare : Nat → Bool} {held : Bool} {r : Reach} {b0 : Nat} {v : Value} {d : DataW H} {p : List MemPlace} (hv : Value.okWide Tryz.prog W r b0 46 v) (h : DataW.Trod enc Tryz.prog W base spare held 46 v d p) :
    ∃ l0 l1 l2 l3 : Int, v = .agg #[.int .u16 l0, .int .u16 l1, .int .u16 l2, .int .u16 l3] ∧
      (Lit.int .u16 l0).wf = true ∧ (Lit.int .u16 l1).wf = true ∧ (Lit.int .u16 l2).wf = true ∧ (Lit.int .u16 l3).wf = true := by
  simp only [Value.okWide, Tryz.underlying46] at hv
  obtain ⟨cs, rfl, hsz, -⟩ := hv
  obtain ⟨c0, c1, c2, c3, rfl⟩ := array4 (hsz.trans (show Tryz.prog.cellsOf 46 = 4 by kernel_rfl))
  obtain ⟨fuel, hf⟩ := h
  have hf' : DataW.trod enc Tryz.prog W base spare held fuel 46 [c0, c1, c2, c3] = some (d, p) := by simpa [Value.cells] using hf
  obtain ⟨y0, y1, y2, y3, n, -, h0, h1, h2, h3⟩ := trod_array4 Tryz.underlying46 (show Tryz.prog.cellsOf 42 = 1 by kernel_rfl) hf'
  obtain ⟨l0, e0, _, w0⟩ := DataW.trod_int Tryz.underlying42 h0
  obtain ⟨l1, e1, _, w1⟩ := DataW.trod_int Tryz.underlying42 h1
  obtain ⟨l2, e2, _, w2⟩ := DataW.trod_int Tryz.underlying42 h2
  obtain ⟨l3, e3, _, w3⟩ := DataW.trod_int Tryz.underlying42 h3
  simp at e0 e1 e2 e3
  subst e0 e1 e2 e3
  exact ⟨l0, l1, l2, l3, rfl, w0, w1, w2, w3⟩
end Go.Proofs.YtkajibniibjblaaGreatDoor
