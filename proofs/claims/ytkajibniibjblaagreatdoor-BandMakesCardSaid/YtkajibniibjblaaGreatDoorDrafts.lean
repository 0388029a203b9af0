/-
  the drafts' bands: Small, Band, Unit; inside.
-/
import Derived.Test.YtkajibniibjblaaGreatDoorWorks1
import Derived.Test.YtkajibniibjblaaGreatDoorBandLaws
namespace Go.Proofs.YtkajibniibjblaaGreatDoor
open Go.RowKit
set_option maxRecDepth 100000

theorem tmod_bd (a c : Int) (hc : 0 < c) : -c < a.tmod c ∧ a.tmod c < c := by
  rcases Int.le_total 0 a with h | h
  · rw [Int.tmod_eq_emod_of_nonneg h]
    have h1 := Int.emod_nonneg a (show c ≠ 0 by omega)
    have h2 := Int.emod_lt_of_pos a hc
    omega
  · have e : a.tmod c = -((-a) % c) := by rw [← Int.tmod_eq_emod_of_nonneg (show 0 ≤ -a by omega), Int.neg_tmod, Int.neg_neg]
    have h1 := Int.emod_nonneg (-a) (show c ≠ 0 by omega)
    have h2 := Int.emod_lt_of_pos (-a) hc
    omega

theorem small_any (w : World) (a u : Int) (_ha0 : -9223372036854775808 ≤ a) (_ha1 : a ≤ 9223372036854775807) (hu0 : 0 ≤ u) (hu1 : u ≤ 4294967295) :
    Calls Tryz.prog 20 #[.agg #[.int .i64 a, .int .u32 u]] w fun e w' => ∃ lo hi, e = .returned (bandV lo hi) ∧ Hid (SmallB lo hi) ∧ Below w.heap.size w w' := by
  have h1 := tmod_bd a 19000000000000 (by decide)
  have h2 := Int.emod_nonneg u (show (1000000 : Int) ≠ 0 by decide)
  have h3 := Int.emod_lt_of_pos u (show (0 : Int) < 1000000 by decide)
  have hW : Below w.heap.size w ((w.alloc (.cells #[.int .i64 a, .int .u32 u] 26)).alloc (.cells #[.int .i64 0, .int .i64 0] 23)) := (((Below.refl w.heap.size w).alloc (Nat.le_refl _) _).alloc (by simp <;> omega) _)
  have o1 := heap_more (heap_last w (.cells #[.int .i64 a, .int .u32 u] 26)) (.cells #[.int .i64 0, .int .i64 0] 23)
  have O1 := Lib.hid o1
  clear o1
  have o2 := heap_last (w.alloc (.cells #[.int .i64 a, .int .u32 u] 26)) (.cells #[.int .i64 0, .int .i64 0] 23)
  rw [show (w.alloc (.cells #[.int .i64 a, .int .u32 u] 26)).heap.size = w.heap.size + 1 by simp] at o2
  have O2 := Lib.hid o2
  clear o2
  have hsz : ((w.alloc (.cells #[.int .i64 a, .int .u32 u] 26)).alloc (.cells #[.int .i64 0, .int .i64 0] 23)).heap.size = w.heap.size + 1 + 1 := by simp
  have HSZ := Lib.hid hsz
  clear hsz
  have HB : Hid (SmallB (a.tmod 19000000000000) (a.tmod 19000000000000 + u % 1000000)) := by show SmallB _ _; unfold SmallB; omega
  clear h2 h3
  go_enter Tryz.func20, Tryz.ntmps20
  go_wp2
  refine bodyPost_ret (v := bandV (a.tmod 19000000000000) (a.tmod 19000000000000 + u % 1000000)) (by simp [results, Tryz.results20, go_sem]) rfl ⟨_, _, rfl, HB, ?_⟩
  first
    | exact ((Below.refl _ _).alloc (Nat.le_refl _) _).alloc (by simp) _
    | exact ((((Below.refl _ _).alloc (Nat.le_refl _) _).alloc (by simp) _).setCell (by simp) _).setCell (by simp) _

theorem draft_any (w : World) (a u : Int) (_ha0 : -9223372036854775808 ≤ a) (_ha1 : a ≤ 9223372036854775807) (hu0 : 0 ≤ u) (hu1 : u ≤ 4294967295) :
    Calls Tryz.prog 41 #[.agg #[.int .i64 a, .int .u32 u]] w fun e w' => ∃ lo hi, e = .returned (bandV lo hi) ∧ Hid (okB lo hi = true) ∧ Below w.heap.size w w' := by
  have h1 := tmod_bd a 1000000000000000001 (by decide)
  have hn2 := fun w ts t x y => run_min2 w ts t x y
  have hW : Below w.heap.size w ((w.alloc (.cells #[.int .i64 a, .int .u32 u] 26)).alloc (.cells #[.int .i64 0, .int .i64 0] 23)) := (((Below.refl w.heap.size w).alloc (Nat.le_refl _) _).alloc (by simp <;> omega) _)
  have o1 := heap_more (heap_last w (.cells #[.int .i64 a, .int .u32 u] 26)) (.cells #[.int .i64 0, .int .i64 0] 23)
  have O1 := Lib.hid o1
  clear o1
  have o2 := heap_last (w.alloc (.cells #[.int .i64 a, .int .u32 u] 26)) (.cells #[.int .i64 0, .int .i64 0] 23)
  rw [show (w.alloc (.cells #[.int .i64 a, .int .u32 u] 26)).heap.size = w.heap.size + 1 by simp] at o2
  have O2 := Lib.hid o2
  clear o2
  have hsz : ((w.alloc (.cells #[.int .i64 a, .int .u32 u] 26)).alloc (.cells #[.int .i64 0, .int .i64 0] 23)).heap.size = w.heap.size + 1 + 1 := by simp
  have HSZ := Lib.hid hsz
  clear hsz
  have HB : Hid (okB (a.tmod 1000000000000000001) (min (a.tmod 1000000000000000001 + u) 1000000000000000000) = true) := by show _ = true; rw [ok_iff]; omega
  go_enter Tryz.func41, Tryz.ntmps41
  go_wp2
  refine bodyPost_ret (v := bandV (a.tmod 1000000000000000001) (min (a.tmod 1000000000000000001 + u) 1000000000000000000)) (by simp [results, Tryz.results41, go_sem]) rfl ⟨_, _, rfl, HB, ?_⟩
  first
    | exact ((Below.refl _ _).alloc (Nat.le_refl _) _).alloc (by simp) _
    | exact ((((Below.refl _ _).alloc (Nat.le_refl _) _).alloc (by simp) _).setCell (by simp) _).setCell (by simp) _

theorem unit_any (w : World) (a u : Int) (_ha0 : -9223372036854775808 ≤ a) (_ha1 : a ≤ 9223372036854775807) (hu0 : 0 ≤ u) (hu1 : u ≤ 4294967295) :
    Calls Tryz.prog 55 #[.agg #[.int .i64 a, .int .u32 u]] w fun e w' => ∃ lo hi, e = .returned (bandV lo hi) ∧ Hid (okB lo hi = true) ∧ Below w.heap.size w w' := by
  have h1 := tmod_bd a 1000000000001 (by decide)
  have h2 := Int.emod_nonneg u (show (1000000 : Int) ≠ 0 by decide)
  have h3 := Int.emod_lt_of_pos u (show (0 : Int) < 1000000 by decide)
  obtain ⟨m, hm⟩ : ∃ m, max (a.tmod 1000000000001) (-(a.tmod 1000000000001)) = m := ⟨_, rfl⟩
  have hm0 : 0 ≤ m := by omega
  have hm1 : m ≤ 1000000000000 := by omega
  have hn2 := fun w ts t x y => run_min2 w ts t x y
  have hm2 := fun w ts t => run_max2 w ts t (a.tmod 1000000000001) (-(a.tmod 1000000000001))
  rw [hm] at hm2
  clear hm
  have hW : Below w.heap.size w ((w.alloc (.cells #[.int .i64 a, .int .u32 u] 26)).alloc (.cells #[.int .i64 0, .int .i64 0] 23)) := (((Below.refl w.heap.size w).alloc (Nat.le_refl _) _).alloc (by simp <;> omega) _)
  have o1 := heap_more (heap_last w (.cells #[.int .i64 a, .int .u32 u] 26)) (.cells #[.int .i64 0, .int .i64 0] 23)
  have O1 := Lib.hid o1
  clear o1
  have o2 := heap_last (w.alloc (.cells #[.int .i64 a, .int .u32 u] 26)) (.cells #[.int .i64 0, .int .i64 0] 23)
  rw [show (w.alloc (.cells #[.int .i64 a, .int .u32 u] 26)).heap.size = w.heap.size + 1 by simp] at o2
  have O2 := Lib.hid o2
  clear o2
  have hsz : ((w.alloc (.cells #[.int .i64 a, .int .u32 u] 26)).alloc (.cells #[.int .i64 0, .int .i64 0] 23)).heap.size = w.heap.size + 1 + 1 := by simp
  have HSZ := Lib.hid hsz
  clear hsz
  have HB : Hid (okB m (min (m + u % 1000000) 1000000000000) = true) := by show _ = true; rw [ok_iff]; omega
  clear h2 h3
  go_enter Tryz.func55, Tryz.ntmps55
  go_wp2
  refine bodyPost_ret (v := bandV m (min (m + u % 1000000) 1000000000000)) (by simp [results, Tryz.results55, go_sem]) rfl ⟨_, _, rfl, HB, ?_⟩
  first
    | exact ((Below.refl _ _).alloc (Nat.le_refl _) _).alloc (by simp) _
    | exact ((((Below.refl _ _).alloc (Nat.le_refl _) _).alloc (by simp) _).setCell (by simp) _).setCell (by simp) _

theorem inside_ok (w : World) (x y z t : Int) (h1 : z ≤ x) (h2 : y ≤ t) :
    Calls Tryz.prog 17 #[bandV x y, bandV z t] w fun e w' => e = .returned (.bool true) ∧ Below w.heap.size w w' := by
  have hW : Below w.heap.size w ((w.alloc (.cells #[.int .i64 x, .int .i64 y] 23)).alloc (.cells #[.int .i64 z, .int .i64 t] 23)) := (((Below.refl w.heap.size w).alloc (Nat.le_refl _) _).alloc (by simp <;> omega) _)
  have o1 := heap_more (heap_last w (.cells #[.int .i64 x, .int .i64 y] 23)) (.cells #[.int .i64 z, .int .i64 t] 23)
  have O1 := Lib.hid o1
  clear o1
  have o2 := heap_last (w.alloc (.cells #[.int .i64 x, .int .i64 y] 23)) (.cells #[.int .i64 z, .int .i64 t] 23)
  rw [show (w.alloc (.cells #[.int .i64 x, .int .i64 y] 23)).heap.size = w.heap.size + 1 by simp] at o2
  have O2 := Lib.hid o2
  clear o2
  have hsz : ((w.alloc (.cells #[.int .i64 x, .int .i64 y] 23)).alloc (.cells #[.int .i64 z, .int .i64 t] 23)).heap.size = w.heap.size + 1 + 1 := by simp
  have HSZ := Lib.hid hsz
  clear hsz
  go_enter Tryz.func17, Tryz.ntmps17
  go_wp2
  go_ret
  exact ⟨rfl, hW⟩

end Go.Proofs.YtkajibniibjblaaGreatDoor
