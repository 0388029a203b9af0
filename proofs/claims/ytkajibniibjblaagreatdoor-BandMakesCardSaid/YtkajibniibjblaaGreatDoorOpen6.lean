/-
  The law's Two, by value, opened: eight numbers.
  ref02's Draft, by value, opened: two Bools, two slices of uint16 (read as lists), two numbers.
-/
import Derived.Test.YtkajibniibjblaaGreatDoorRows
import Derived.ProofKit
import Derived.ChangeSame
import Derived.OpenShut
import Derived.Lib.SmallJoins
import Derived.Test.YtkajibniibjblaaGreatDoorWords
import Derived.ChangeSlices
import Derived.Deep.Strs
namespace Go.Proofs.YtkajibniibjblaaGreatDoor
open Go.ChangeShapes Go.WideShapes Go.ChangeAt Go.WideMaps Go.WideElems Go.RowKit Go.Joins

theorem array8 {α : Type} {cs : Array α} (h : cs.size = 8) : ∃ c0 c1 c2 c3 c4 c5 c6 c7, cs = #[c0, c1, c2, c3, c4, c5, c6, c7] := by
  obtain ⟨l⟩ := cs
  match l, h with
  | [c0, c1, c2, c3, c4, c5, c6, c7], _ => exact ⟨c0, c1, c2, c3, c4, c5, c6, c7, rfl⟩

set_option maxRecDepth 100000
section
variable {H : Type} {enc : TypeId × Value → H} {W : World} {base : Nat} {spare : Nat → Bool} {held : Bool}
theorem open_band {n : Nat} {c0 c1 : Value} {y : DataW H × List MemPlace} (h : DataW.trod enc Tryz.prog W base spare held n 23 [c0, c1] = some y) :
    ∃ a b, c0 = .int .i64 a ∧ c1 = .int .i64 b ∧ (Lit.int .i64 a).wf = true ∧ (Lit.int .i64 b).wf = true := by
  obtain ⟨y0, y1, m, -, -, h0, h1⟩ := trod_struct2 Tryz.underlying23 h
  obtain ⟨a, e0, _, wa⟩ := DataW.trod_int Tryz.underlying3 h0
  obtain ⟨b, e1, _, wb⟩ := DataW.trod_int Tryz.underlying3 h1
  have s1 : Tryz.prog.cellsOf 3 = 1 := by kernel_rfl
  simp [s1] at e0 e1
  exact ⟨a, b, e0, e1, wa, wb⟩
theorem open_draft {n : Nat} {c0 c1 : Value} {y : DataW H × List MemPlace} (h : DataW.trod enc Tryz.prog W base spare held n 26 [c0, c1] = some y) :
    ∃ a b, c0 = .int .i64 a ∧ c1 = .int .u32 b ∧ (Lit.int .i64 a).wf = true ∧ (Lit.int .u32 b).wf = true := by
  obtain ⟨y0, y1, m, -, -, h0, h1⟩ := trod_struct2 Tryz.underlying26 h
  obtain ⟨a, e0, _, wa⟩ := DataW.trod_int Tryz.underlying2 h0
  obtain ⟨b, e1, _, wb⟩ := DataW.trod_int Tryz.underlying24 h1
  have s1 : Tryz.prog.cellsOf 2 = 1 := by kernel_rfl
  have s2 : Tryz.prog.cellsOf 24 = 1 := by kernel_rfl
  simp [s1, s2] at e0 e1
  exact ⟨a, b, e0, e1, wa, wb⟩
theorem open_two {r : Reach} {b0 : Nat} {v : Value} {d : DataW H} {p : List MemPlace} (hv : Value.okWide Tryz.prog W r b0 28 v) (h : DataW.Trod enc Tryz.prog W base spare held 28 v d p) :
    ∃ a0 a1 b0 b1 ax ux ay uy : Int, v = .agg #[.int .i64 a0, .int .i64 a1, .int .i64 b0, .int .i64 b1, .int .i64 ax, .int .u32 ux, .int .i64 ay, .int .u32 uy] ∧
      (Lit.int .i64 a0).wf = true ∧ (Lit.int .i64 a1).wf = true ∧ (Lit.int .i64 b0).wf = true ∧ (Lit.int .i64 b1).wf = true ∧ (Lit.int .i64 ax).wf = true ∧ (Lit.int .u32 ux).wf = true ∧ (Lit.int .i64 ay).wf = true ∧ (Lit.int .u32 uy).wf = true := by
  obtain ⟨cs, rfl, hsz⟩ := okWide_struct Tryz.underlying28 hv
  obtain ⟨c0, c1, c2, c3, c4, c5, c6, c7, rfl⟩ := array8 (hsz.trans (show Tryz.prog.cellsOf 28 = 8 by kernel_rfl))
  obtain ⟨fuel, hf⟩ := h
  obtain ⟨y0, y1, y2, y3, n, -, -, h0, h1, h2, h3⟩ := trod_struct4 Tryz.underlying28 hf
  have s1 : Tryz.prog.cellsOf 23 = 2 := by kernel_rfl
  have s2 : Tryz.prog.cellsOf 26 = 2 := by kernel_rfl
  simp [Value.cells, s1, s2] at h0 h1 h2 h3
  obtain ⟨a0, a1, rfl, rfl, w0, w1⟩ := open_band h0
  obtain ⟨b0, b1, rfl, rfl, w2, w3⟩ := open_band h1
  obtain ⟨ax, ux, rfl, rfl, w4, w5⟩ := open_draft h2
  obtain ⟨ay, uy, rfl, rfl, w6, w7⟩ := open_draft h3
  exact ⟨a0, a1, b0, b1, ax, ux, ay, uy, rfl, w0, w1, w2, w3, w4, w5, w6, w7⟩
end
end Go.Proofs.YtkajibniibjblaaGreatDoor

namespace Go.Proofs.YtkajibniibjblaaGreatDoor
open Go.ChangeShapes Go.WideShapes Go.ChangeAt Go.WideMaps Go.WideElems Go.RowKit Go.Joins

theorem array6 {α : Type} {cs : Array α} (h : cs.size = 6) : ∃ c0 c1 c2 c3 c4 c5, cs = #[c0, c1, c2, c3, c4, c5] := by
  obtain ⟨l⟩ := cs
  match l, h with
  | [c0, c1, c2, c3, c4, c5], _ => exact ⟨c0, c1, c2, c3, c4, c5, rfl⟩

set_option maxRecDepth 100000
section
variable {H : Type} {enc : TypeId × Value → H} {W : World} {base : Nat} {held : Bool}
theorem open_rd {n : Nat} {c : Value} {y : DataW H × List MemPlace} (h : DataW.trod enc Tryz.prog W base (fun _ => true) held n 52 [c] = some y) :
    ∃ A m d xs, c = .slice A m d ∧ Rd W .u16 A m d xs ∧ ∀ x ∈ xs, 0 ≤ x ∧ x ≤ 65535 := by
  rcases open_ints Tryz.underlying52 Tryz.underlying42 (by kernel_rfl) h with ⟨hc, -⟩ | ⟨a, len, cap, zs, hc, -, hl, hm, hz, -, hcell, hwf⟩
  · simp at hc
    exact ⟨none, 0, 0, [], hc, ⟨rfl, Nat.le_refl _, by decide, fun _ => rfl, by simp⟩, by simp⟩
  · simp at hc hz
    have hm' : cap ≤ 9223372036854775807 := hm
    refine ⟨some a, len, cap, zs.take len, hc, ⟨by simp; omega, hl, hm', (by intro hn; cases hn), ?_⟩, ?_⟩
    · intro j d hj
      have hjl : j < len := by
        rcases Nat.lt_or_ge j len with h1 | h1
        · exact h1
        · rw [List.getElem?_eq_none (by simp; omega)] at hj; cases hj
      obtain ⟨b, off, rfl, hat⟩ := ints_at hcell (by omega)
      have hcj := hat j (by omega)
      rw [List.getElem?_take_of_lt hjl, List.getElem?_eq_getElem (by omega)] at hj
      have hd : zs.getD j 0 = d := by
        rw [List.getD_eq_getElem?_getD, List.getElem?_eq_getElem (by omega)]
        simpa using hj
      rw [hd] at hcj
      exact ⟨b, off, rfl, World.block_lt_of_cell? _ _ hcj, hcj⟩
    · intro x hx
      exact bounds_u16 (hwf x (List.mem_of_mem_take hx))
theorem open_num {n : Nat} {c0 c1 c2 : Value} {y : DataW H × List MemPlace} (h : DataW.trod enc Tryz.prog W base (fun _ => true) held n 54 [c0, c1, c2] = some y) :
    ∃ bl A m d z xs, c0 = .bool bl ∧ c1 = .slice A m d ∧ c2 = .int .u16 z ∧ Rd W .u16 A m d xs ∧ ∀ x ∈ xs, 0 ≤ x ∧ x ≤ 65535 := by
  obtain ⟨y0, y1, y2, m, -, -, h0, h1, h2⟩ := Go.Deep.trod_struct3 Tryz.underlying54 h
  have s0 : Tryz.prog.cellsOf 4 = 1 := by kernel_rfl
  have s1 : Tryz.prog.cellsOf 52 = 1 := by kernel_rfl
  have s2 : Tryz.prog.cellsOf 42 = 1 := by kernel_rfl
  simp [s0, s1, s2] at h0 h1 h2
  obtain ⟨bl, e0, _⟩ := DataW.trod_bool Tryz.underlying4 h0
  obtain ⟨A, k, d, xs, e1, hr, hb⟩ := open_rd h1
  obtain ⟨z, e2, _, wz⟩ := DataW.trod_int Tryz.underlying42 h2
  simp at e0 e2
  exact ⟨bl, A, k, d, z, xs, e0, e1, e2, hr, hb⟩
theorem open_six {r : Reach} {b0 : Nat} {v : Value} {d : DataW H} {p : List MemPlace} (hv : Value.okWide Tryz.prog W r b0 56 v) (h : DataW.Trod enc Tryz.prog W base (fun _ => true) held 56 v d p) :
    ∃ (bl : Bool) (A : Option Addr) (n c : Nat) (z : Int) (xs : List Int) (bm : Bool) (B : Option Addr) (m k : Nat) (y : Int) (ys : List Int),
      v = .agg #[.bool bl, .slice A n c, .int .u16 z, .bool bm, .slice B m k, .int .u16 y] ∧
      (Rd W .u16 A n c xs ∧ ∀ x ∈ xs, 0 ≤ x ∧ x ≤ 65535) ∧ Rd W .u16 B m k ys ∧ ∀ x ∈ ys, 0 ≤ x ∧ x ≤ 65535 := by
  obtain ⟨cs, rfl, hsz⟩ := okWide_struct Tryz.underlying56 hv
  obtain ⟨c0, c1, c2, c3, c4, c5, rfl⟩ := array6 (hsz.trans (show Tryz.prog.cellsOf 56 = 6 by kernel_rfl))
  obtain ⟨fuel, hf⟩ := h
  obtain ⟨y0, y1, n, -, -, h0, h1⟩ := trod_struct2 Tryz.underlying56 hf
  have s1 : Tryz.prog.cellsOf 54 = 3 := by kernel_rfl
  simp [Value.cells, s1] at h0 h1
  obtain ⟨bl, A, m, k, z, xs, rfl, rfl, rfl, hr, hb⟩ := open_num h0
  obtain ⟨bm, B, m', k', y, ys, rfl, rfl, rfl, hr', hb'⟩ := open_num h1
  exact ⟨bl, A, m, k, z, xs, bm, B, m', k', y, ys, rfl, ⟨hr, hb⟩, hr', hb'⟩
theorem open_num2 {n : Nat} {c0 c1 c2 : Value} {y : DataW H × List MemPlace} (h : DataW.trod enc Tryz.prog W base (fun _ => true) held n 54 [c0, c1, c2] = some y) :
    ∃ bl A m d z xs, c0 = .bool bl ∧ c1 = .slice A m d ∧ c2 = .int .u16 z ∧ (Rd W .u16 A m d xs ∧ ∀ x ∈ xs, 0 ≤ x ∧ x ≤ 65535) ∧ 0 ≤ z ∧ z ≤ 65535 := by
  obtain ⟨y0, y1, y2, m, -, -, h0, h1, h2⟩ := Go.Deep.trod_struct3 Tryz.underlying54 h
  have s0 : Tryz.prog.cellsOf 4 = 1 := by kernel_rfl
  have s1 : Tryz.prog.cellsOf 52 = 1 := by kernel_rfl
  have s2 : Tryz.prog.cellsOf 42 = 1 := by kernel_rfl
  simp [s0, s1, s2] at h0 h1 h2
  obtain ⟨bl, e0, _⟩ := DataW.trod_bool Tryz.underlying4 h0
  obtain ⟨A, k, d, xs, e1, hr, hb⟩ := open_rd h1
  obtain ⟨z, e2, _, wz⟩ := DataW.trod_int Tryz.underlying42 h2
  simp at e0 e2
  exact ⟨bl, A, k, d, z, xs, e0, e1, e2, ⟨hr, hb⟩, bounds_u16 wz⟩
theorem open_six2 {r : Reach} {b0 : Nat} {v : Value} {d : DataW H} {p : List MemPlace} (hv : Value.okWide Tryz.prog W r b0 56 v) (h : DataW.Trod enc Tryz.prog W base (fun _ => true) held 56 v d p) :
    ∃ (bl : Bool) (A : Option Addr) (n c : Nat) (z : Int) (xs : List Int) (bm : Bool) (B : Option Addr) (m k : Nat) (y : Int) (ys : List Int),
      v = .agg #[.bool bl, .slice A n c, .int .u16 z, .bool bm, .slice B m k, .int .u16 y] ∧
      ((Rd W .u16 A n c xs ∧ ∀ x ∈ xs, 0 ≤ x ∧ x ≤ 65535) ∧ 0 ≤ z ∧ z ≤ 65535) ∧ (Rd W .u16 B m k ys ∧ ∀ x ∈ ys, 0 ≤ x ∧ x ≤ 65535) ∧ 0 ≤ y ∧ y ≤ 65535 := by
  obtain ⟨cs, rfl, hsz⟩ := okWide_struct Tryz.underlying56 hv
  obtain ⟨c0, c1, c2, c3, c4, c5, rfl⟩ := array6 (hsz.trans (show Tryz.prog.cellsOf 56 = 6 by kernel_rfl))
  obtain ⟨fuel, hf⟩ := h
  obtain ⟨y0, y1, n, -, -, h0, h1⟩ := trod_struct2 Tryz.underlying56 hf
  have s1 : Tryz.prog.cellsOf 54 = 3 := by kernel_rfl
  simp [Value.cells, s1] at h0 h1
  obtain ⟨bl, A, m, k, z, xs, rfl, rfl, rfl, hr, hb⟩ := open_num2 h0
  obtain ⟨bm, B, m', k', y, ys, rfl, rfl, rfl, hr', hb'⟩ := open_num2 h1
  exact ⟨bl, A, m, k, z, xs, bm, B, m', k', y, ys, rfl, ⟨hr, hb⟩, hr', hb'⟩
theorem array2' {α : Type} {cs : Array α} (h : cs.size = 2) : ∃ c0 c1, cs = #[c0, c1] := by
  obtain ⟨l⟩ := cs
  match l, h with
  | [c0, c1], _ => exact ⟨c0, c1, rfl⟩
theorem open_frac {r : Reach} {b0 : Nat} {v : Value} {d : DataW H} {p : List MemPlace} (hv : Value.okWide Tryz.prog W r b0 51 v) (h : DataW.Trod enc Tryz.prog W base (fun _ => true) held 51 v d p) :
    ∃ N D : ByteArray, v = .agg #[.string N, .string D] := by
  obtain ⟨cs, rfl, hsz⟩ := okWide_struct Tryz.underlying51 hv
  obtain ⟨c0, c1, rfl⟩ := array2' (hsz.trans (show Tryz.prog.cellsOf 51 = 2 by kernel_rfl))
  obtain ⟨fuel, hf⟩ := h
  obtain ⟨y0, y1, n, -, -, h0, h1⟩ := trod_struct2 Tryz.underlying51 hf
  have s1 : Tryz.prog.cellsOf 49 = 1 := by kernel_rfl
  simp [Value.cells, s1] at h0 h1
  obtain ⟨N, e0, _, _⟩ := DataW.trod_string Tryz.underlying49 h0
  obtain ⟨D, e1, _, _⟩ := DataW.trod_string Tryz.underlying49 h1
  simp at e0 e1
  exact ⟨N, D, by rw [e0, e1]⟩
end
end Go.Proofs.YtkajibniibjblaaGreatDoor
