/-
  strconv.FormatUint to the base 10, and what is asked of the program's tables.
-/
import Derived.Test.YtkajibniibjblaaGreatDoorShelf
import Derived.Test.YtkajibniibjblaaGreatDoorLaws
import Derived.Lib.Walk
import Derived.Lib.ItoaMem
import Derived.WalkSmall
import Derived.KernelRfl
namespace Go.Proofs.YtkajibniibjblaaGreatDoor
open Go.RowKit Go.Sort
set_option maxRecDepth 100000

/-- What is asked of the package-level variables: the table of the powers of ten. -/
structure Env (w : World) : Prop where
  tab : Lib.TabIs Tryz.prog w "internal/strconv.uint64pow10" .u64 Lib.pow10Tab

theorem tabBlock : Tryz.prog.globalNamed "internal/strconv.uint64pow10" = some 2 := by kernel_rfl

theorem Env.lt {w : World} (h : Env w) : 2 < w.heap.size := by
  have := h.tab
  unfold Lib.TabIs World.var? at this
  simp only [tabBlock, Option.bind_some] at this
  rcases Nat.lt_or_ge 2 w.heap.size with h' | h'
  · exact h'
  · rw [Array.getElem?_eq_none h'] at this; simp at this
theorem Env.below {w w' : World} (h : Env w) (hb : Below w.heap.size w w') : Env w' := ⟨var?_below hb tabBlock h.lt h.tab⟩

theorem holds_zero0 (w : World) (T : TypeId) (nd : Nat) (hs : nd ≤ 24) : Holds (fun (b : UInt8) => Value.int .u8 (b.toNat : Int)) (w.alloc (.cells Lib.zeros24 T)) w.heap.size 0 (Array.replicate nd (0 : UInt8)) := fun j hj => by
  have hj' : j < nd := by simpa using hj
  refine ⟨?_, World.frozen?_alloc_new _ _ _ _⟩
  rw [World.cell?_alloc_new, Lib.zeros24_at _ (by omega), getElem!_pos _ j hj]
  simp
theorem below_putRow {B : Nat} {w0 w : World} (h : Below B w0 w) {blk off : Nat} (hb : B ≤ blk) (d : Array UInt8) : Below B w0 (putRow (fun (b : UInt8) => Value.int .u8 (b.toNat : Int)) w blk off d) :=
  h.trans ⟨rfl, rfl, rfl, by simp, fun k hk => by simp only [putRow, mapBlock, Array.getElem?_modify]; rw [if_neg (by omega)]⟩

/-- The text of a call that makes at most new memory. -/
def RetS (w : World) (l : List UInt8) : Ending → World → Prop := fun e w' => e = .returned (.string ⟨l.toArray⟩) ∧ Below w.heap.size w w'

theorem fmtInner (u : Nat) (hu64 : u < 18446744073709551616) (w : World) (henv : Env w) :
    Calls Tryz.prog 176 #[.int .u64 u, .int .i64 10] w (RetS w (Lib.decDigits u)) := by
  by_cases hs : u < 100
  · go_enter Tryz.func176, Tryz.ntmps176
    go_wp2_with (go_at_call 193; refine (Tryz.internal_strconv_small u hs _).mono ?_; rintro e w' ⟨rfl, rfl⟩)
    go_ret
    exact ⟨rfl, Below.refl _ _⟩
  · have hu1 : 1 ≤ u := by omega
    have hnd20 : Lib.nDigits u ≤ 20 := by have := Lib.numDigits_eq u hu1 hu64; split at this <;> omega
    have hal : Tryz.prog.arrayLen 215 = 24 := by simp [Program.arrayLen, Tryz.underlying215]
    have hsl1 : ∀ W, (Instr.sliceAt 215 (.pointer (some ⟨w.heap.size, 0, none⟩)) none (some (.int .i64 (Lib.nDigits u : Int))) none).run Tryz.prog W = .ok (.slice (some ⟨w.heap.size, 0, none⟩) (Lib.nDigits u) 24) W := fun W => by
      rw [run_sliceAt_array_h W 215 ⟨w.heap.size, 0, none⟩ (by simp [Program.arrayLen, Program.elem, Tryz.underlying215]) .i64 (Lib.nDigits u : Int) (by omega) (by rw [hal]; omega)]
      go_simp
      try omega
    have hH0 := holds_zero0 w 215 (Lib.nDigits u) (by omega)
    have hfmt := Tryz.internal_strconv_formatBase10 w.heap.size 0 24 u (Array.replicate (Lib.nDigits u) 0) (w.alloc (.cells Lib.zeros24 215)) hH0 (by rw [Array.size_replicate]; exact Lib.lt_pow_nDigits u) hu64 (by rw [Array.size_replicate]; omega)
    rw [Array.size_replicate] at hfmt
    have HH0 := Lib.hid hH0
    clear hH0 hal
    go_enter Tryz.func176, Tryz.ntmps176
    go_wp2_with (go_at_call 194; refine (Tryz.internal_strconv_numDigits u hu1 hu64 _ (Lib.tabIs_alloc henv.tab _)).mono ?_; rintro e w' ⟨rfl, rfl⟩)
    go_at_call 195
    refine hfmt.mono ?_
    rintro e w' ⟨rfl, k, v', dk, rfl, hF⟩
    have hcv : (convert 167 9 (.slice (some ⟨w.heap.size, 0, none⟩) (Lib.nDigits u) 24)).run Tryz.prog ((putRow (fun (b : UInt8) => Value.int .u8 (b.toNat : Int)) (w.alloc (.cells Lib.zeros24 215)) w.heap.size 0 dk).drewN k) = .ok (.string ⟨(Lib.decDigits u).toArray⟩) ((putRow (fun (b : UInt8) => Value.int .u8 (b.toNat : Int)) (w.alloc (.cells Lib.zeros24 215)) w.heap.size 0 dk).drewN k) := by
      have h := run_convert_bytes_back (P := Tryz.prog) ((putRow (fun (b : UInt8) => Value.int .u8 (b.toNat : Int)) (w.alloc (.cells Lib.zeros24 215)) w.heap.size 0 dk).drewN k) 167 9 5 ⟨w.heap.size, 0, none⟩ 24 (Lib.decDigits u) Tryz.underlying167 Tryz.underlying5 Tryz.underlying9 (fun j hj => by
        rw [Lib.row_is_numeral hF j hj, Lib.add_plain, World.cell?_drewN]
        exact cell?_putRow (fun (b : UInt8) => Value.int .u8 (b.toNat : Int)) _ w.heap.size 0 _ dk HH0.out (by rw [hF.size, Array.size_replicate]) j (by rw [hF.size]; rw [Lib.decDigits_length] at hj; exact hj))
      rw [Lib.decDigits_length] at h
      exact h
    go_wp2
    go_ret
    exact ⟨rfl, below_drewN (below_putRow ((Below.refl _ _).alloc (Nat.le_refl _) _) (Nat.le_refl _) dk) k⟩

theorem fmt_any (u : Nat) (hu64 : u < 18446744073709551616) (w : World) (henv : Env w) :
    Calls Tryz.prog 141 #[.int .u64 u, .int .i64 10] w (RetS w (Lib.decDigits u)) := by
  go_enter Tryz.func141, Tryz.ntmps141
  go_wp2_with (go_at_call 176; refine (fmtInner u hu64 _ henv).mono ?_; rintro e w1 ⟨rfl, hb⟩)
  go_ret
  exact ⟨rfl, hb⟩

end Go.Proofs.YtkajibniibjblaaGreatDoor
