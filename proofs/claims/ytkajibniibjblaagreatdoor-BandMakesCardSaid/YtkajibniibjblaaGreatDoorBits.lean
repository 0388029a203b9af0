/-
  math/bits: Mul64, Add64 (carry 0), Div64, as the walks use them: the results under names, what is known of them hidden from the walk.
-/
import Derived.Test.YtkajibniibjblaaGreatDoorDiv
import Derived.Laws.Externs
namespace Go.Proofs.YtkajibniibjblaaGreatDoor
open Go.RowKit
set_option maxRecDepth 100000

theorem add64_run (x y : Int) (hx : 0 ≤ x) (hy : 0 ≤ y) (w : World) :
    (callFunc 172 #[.int .u64 x, .int .u64 y, .int .u64 0]).run Tryz.prog w =
      .ok (.value (.tuple #[.int .u64 ((x + y + 0) % 18446744073709551616), .int .u64 ((x + y + 0) / 18446744073709551616)])) w := by
  rw [run_callFunc_extern Tryz.func172 (by kernel_rfl) (by kernel_rfl) (by kernel_rfl) (e := add64Entry) (by kernel_rfl), run_add64 x y 0 hx hy (by omega) (by omega)]
  rfl

/-- Add64 with the carry 0: a sum s and a carry o. -/
theorem add64_ex (x y : Int) (hx : 0 ≤ x) (hx1 : x ≤ 18446744073709551615) (hy : 0 ≤ y) (hy1 : y ≤ 18446744073709551615) :
    ∃ s o : Int, (∀ w, (callFunc 172 #[.int .u64 x, .int .u64 y, .int .u64 0]).run Tryz.prog w = .ok (.value (.tuple #[.int .u64 s, .int .u64 o])) w) ∧
      0 ≤ s ∧ s ≤ 18446744073709551615 ∧ 0 ≤ o ∧ o ≤ 1 ∧ Hid (s + o * W64 = x + y) :=
  ⟨_, _, add64_run x y hx hy, by omega, by omega, by omega, by omega, by show _ = _; unfold W64; omega⟩

/-- Mul64: the product's two parts. -/
def MulR (x y : Int) (w : World) (e : Ending) (w' : World) : Prop := ∃ hi lo : Int, e = .returned (.tuple #[.int .u64 hi, .int .u64 lo]) ∧ Hid (hi * W64 + lo = x * y) ∧ 0 ≤ hi ∧ 0 ≤ lo ∧ lo ≤ 18446744073709551615 ∧ w = w'
theorem mul64_any (x y : Int) (hx : 0 ≤ x) (hx1 : x ≤ 18446744073709551615) (hy : 0 ≤ y) (hy1 : y ≤ 18446744073709551615) (w : World) :
    Calls Tryz.prog 117 #[.int .u64 x, .int .u64 y] w (MulR x y w) := by
  obtain ⟨x, rfl⟩ := Int.eq_ofNat_of_zero_le hx
  obtain ⟨y, rfl⟩ := Int.eq_ofNat_of_zero_le hy
  refine (Tryz.bits_Mul64 x y (by omega) (by omega) w).mono fun e w' ⟨he, hw⟩ => ⟨_, _, he, ?_, by omega, by omega, by omega, hw.symm⟩
  show _ = _
  unfold W64
  rw [← Int.natCast_mul]
  omega

/-- Div64: quotient and remainder. -/
def DivR (hi lo y : Int) (w : World) (e : Ending) (w' : World) : Prop := ∃ q r : Int, e = .returned (.tuple #[.int .u64 q, .int .u64 r]) ∧ Hid (q * y + r = hi * W64 + lo) ∧ 0 ≤ q ∧ q ≤ 18446744073709551615 ∧ 0 ≤ r ∧ r < y ∧ Below w.heap.size w w'
theorem div_low (lo y : Int) (w : World) (h1 : 0 < y) (h2 : y ≤ 18446744073709551615) (h3 : 0 ≤ lo) (h4 : lo ≤ 18446744073709551615) :
    Calls Tryz.prog 119 #[.int .u64 0, .int .u64 lo, .int .u64 y] w (DivR 0 lo y w) := by
  have hq0 := Int.ediv_nonneg h3 (Int.le_of_lt h1)
  have hq1 : lo / y ≤ lo := Int.ediv_le_self _ h3
  have hm0 := Int.emod_nonneg lo (show y ≠ 0 by omega)
  have hm1 := Int.emod_lt_of_pos lo h1
  have he := Int.mul_ediv_add_emod lo y
  have HE : Hid _ := he
  clear he
  go_enter Tryz.func119, Tryz.ntmps119
  go_wp2_with (go_quiet (fail))
  go_ret2
  exact ⟨_, _, rfl, by show _ = _; have := HE.out; rw [Int.mul_comm]; omega, hq0, by omega, hm0, hm1, below_drewN (Below.refl _ _) _⟩
theorem div64_any (hi lo y : Int) (w : World) (h0 : 0 ≤ hi) (h1 : hi < y) (h2 : y ≤ 18446744073709551615) (h3 : 0 ≤ lo) (h4 : lo ≤ 18446744073709551615) :
    Calls Tryz.prog 119 #[.int .u64 hi, .int .u64 lo, .int .u64 y] w (DivR hi lo y w) := by
  rcases Int.lt_or_eq_of_le h0 with h | h
  · refine (div_far hi lo y w h h1 h2 h3 h4).mono fun e w' ⟨q, r, he, ht, q0, r0, r1, hw⟩ => ⟨q, r, he, ht, q0, ?_, r0, r1, by subst hw; exact Below.refl _ _⟩
    refine Decidable.by_contra fun hn => ?_
    have h5 : 18446744073709551616 * y ≤ q * y := Int.mul_le_mul_of_nonneg_right (by omega) (by omega)
    unfold W64 at ht
    omega
  · subst h
    exact div_low lo y w h1 h2 h3 h4
end Go.Proofs.YtkajibniibjblaaGreatDoor
