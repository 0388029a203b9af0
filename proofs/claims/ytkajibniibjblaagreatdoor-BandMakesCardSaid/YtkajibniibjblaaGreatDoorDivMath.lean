/-
  The plain arithmetic of math/bits.Div64: one digit of a long division, to the base 2^32. No program in sight.
-/
import Derived.Test.YtkajibniibjblaaGreatDoorWords
import Derived.Laws.BitsAllLaws
namespace Go.Proofs.YtkajibniibjblaaGreatDoor
open Go.RowKit

/-- One digit: the estimate q, and what is left of the highest part. -/
structure DgI (U d y1 y0 q r : Int) : Prop where
  r_ : r = U - q * y1
  r0 : 0 ≤ r
  r1 : r < 4294967296
  q0 : 0 ≤ q
  q1 : q ≤ 4294967297
  up : U * 4294967296 + d < (q + 1) * (y1 * 4294967296 + y0)
/-- One digit: found. -/
structure DgF (U d y1 y0 q : Int) : Prop where
  q0 : 0 ≤ q
  q1 : q < 4294967296
  lo : q * (y1 * 4294967296 + y0) ≤ U * 4294967296 + d
  up : U * 4294967296 + d < (q + 1) * (y1 * 4294967296 + y0)
/-- What is known of the parts. -/
structure DgP (U d y1 y0 : Int) : Prop where
  u0 : 0 ≤ U
  u1 : U < y1 * 4294967296 + y0
  d0 : 0 ≤ d
  d1 : d < 4294967296
  y10 : 2147483648 ≤ y1
  y11 : y1 < 4294967296
  y00 : 0 ≤ y0
  y01 : y0 < 4294967296

theorem DgP.start {U d y1 y0 : Int} (h : DgP U d y1 y0) : DgI U d y1 y0 (U / y1) (U - U / y1 * y1) := by
  obtain ⟨u0, u1, d0, d1, y10, y11, y00, y01⟩ := h
  have hm := Int.emod_nonneg U (show y1 ≠ 0 by omega)
  have hm2 := Int.emod_lt_of_pos U (show 0 < y1 by omega)
  have he := Int.mul_ediv_add_emod U y1
  have hq := Int.ediv_nonneg u0 (show 0 ≤ y1 by omega)
  generalize U / y1 = q at *
  generalize U % y1 = m at *
  have e1 : U - q * y1 = m := by grind
  refine ⟨rfl, by omega, by omega, hq, ?_, ?_⟩
  · refine Decidable.by_contra fun hc => ?_
    have h2 : 4294967298 * y1 ≤ q * y1 := Int.mul_le_mul_of_nonneg_right (by omega) (by omega)
    grind
  · have h3 : 0 ≤ (q + 1) * y0 := Int.mul_nonneg (by omega) y00
    grind
theorem DgI.next {U d y1 y0 q r : Int} (h : DgI U d y1 y0 q r) (p : DgP U d y1 y0) (hc : 4294967296 ≤ q ∨ r * 4294967296 + d < q * y0) (hb : r + y1 < 4294967296) : DgI U d y1 y0 (q - 1) (r + y1) := by
  obtain ⟨u0, u1, d0, d1, y10, y11, y00, y01⟩ := p
  obtain ⟨hr, r0, r1, q0, q1, up⟩ := h
  have hbig : U * 4294967296 + d < q * (y1 * 4294967296 + y0) := by
    rcases hc with hc | hc
    · have h2 : 4294967296 * (y1 * 4294967296 + y0) ≤ q * (y1 * 4294967296 + y0) := Int.mul_le_mul_of_nonneg_right hc (by omega)
      grind
    · grind
  have hq : 0 < q := by
    refine Decidable.by_contra fun hn => ?_
    obtain rfl : q = 0 := by omega
    grind
  exact ⟨by grind, by omega, hb, by omega, by omega, by grind⟩
theorem DgI.stop {U d y1 y0 q r : Int} (h : DgI U d y1 y0 q r) (p : DgP U d y1 y0) (hc : 4294967296 ≤ q ∨ r * 4294967296 + d < q * y0) (hb : 4294967296 ≤ r + y1) : DgF U d y1 y0 (q - 1) := by
  obtain ⟨u0, u1, d0, d1, y10, y11, y00, y01⟩ := p
  obtain ⟨hr, r0, r1, q0, q1, up⟩ := h
  have hbig : U * 4294967296 + d < q * (y1 * 4294967296 + y0) := by
    rcases hc with hc | hc
    · have h2 : 4294967296 * (y1 * 4294967296 + y0) ≤ q * (y1 * 4294967296 + y0) := Int.mul_le_mul_of_nonneg_right hc (by omega)
      grind
    · grind
  have hq : 0 < q := by
    refine Decidable.by_contra fun hn => ?_
    obtain rfl : q = 0 := by omega
    grind
  have h4 : (q - 1) * y0 ≤ 4294967296 * y0 := Int.mul_le_mul_of_nonneg_right (by omega) y00
  have hlo : (q - 1) * (y1 * 4294967296 + y0) ≤ U * 4294967296 + d := by grind
  refine ⟨by omega, ?_, hlo, by grind⟩
  refine Decidable.by_contra fun hn => ?_
  have h2 : 4294967296 * (y1 * 4294967296 + y0) ≤ (q - 1) * (y1 * 4294967296 + y0) := Int.mul_le_mul_of_nonneg_right (by omega) (by omega)
  grind
theorem DgI.done {U d y1 y0 q r : Int} (h : DgI U d y1 y0 q r) (_p : DgP U d y1 y0) (hc : q < 4294967296) (hd : q * y0 ≤ r * 4294967296 + d) : DgF U d y1 y0 q := by
  obtain ⟨hr, r0, r1, q0, q1, up⟩ := h
  exact ⟨q0, hc, by grind, up⟩
theorem DgI.prods {U d y1 y0 q r : Int} (h : DgI U d y1 y0 q r) (p : DgP U d y1 y0) (hc : q < 4294967296) : 0 ≤ q * y0 ∧ q * y0 ≤ 18446744065119617025 := by
  obtain ⟨u0, u1, d0, d1, y10, y11, y00, y01⟩ := p
  obtain ⟨hr, r0, r1, q0, q1, up⟩ := h
  refine ⟨Int.mul_nonneg q0 y00, ?_⟩
  have h1 : q * y0 ≤ 4294967295 * y0 := Int.mul_le_mul_of_nonneg_right (by omega) y00
  omega

/-- u64's wrap is the remainder by 2^64. -/
theorem wrapU (x : Int) : IntKind.u64.wrap x = x % 18446744073709551616 := by
  simp [IntKind.wrap, IntKind.bits, IntKind.signed]
theorem DgP.wrapStart {U d y1 y0 : Int} (h : DgP U d y1 y0) : IntKind.u64.wrap (U - IntKind.u64.wrap (U / y1 * y1)) = U - U / y1 * y1 := by
  have hs := h.start
  obtain ⟨u0, u1, d0, d1, y10, y11, y00, y01⟩ := h
  obtain ⟨_, r0, r1, _, _, _⟩ := hs
  rw [wrapU, wrapU]
  generalize U / y1 * y1 = z at *
  omega
/-- The ways of a round. -/
theorem DgI.ways {U d y1 y0 q r : Int} (h : DgI U d y1 y0 q r) (p : DgP U d y1 y0) :
    (4294967296 ≤ q ∧ r + y1 < 4294967296 ∧ DgI U d y1 y0 (q - 1) (r + y1)) ∨ (4294967296 ≤ q ∧ 4294967296 ≤ r + y1 ∧ DgF U d y1 y0 (q - 1)) ∨
    (q < 4294967296 ∧ 1 ≤ q ∧ 4294967296 * r + d < q * y0 ∧ r + y1 < 4294967296 ∧ DgI U d y1 y0 (q - 1) (r + y1)) ∨ (q < 4294967296 ∧ 1 ≤ q ∧ 4294967296 * r + d < q * y0 ∧ 4294967296 ≤ r + y1 ∧ DgF U d y1 y0 (q - 1)) ∨
    (q < 4294967296 ∧ q * y0 ≤ 4294967296 * r + d ∧ DgF U d y1 y0 q) := by
  by_cases h1 : 4294967296 ≤ q
  · by_cases h2 : r + y1 < 4294967296
    · exact .inl ⟨h1, h2, h.next p (.inl h1) h2⟩
    · exact .inr (.inl ⟨h1, by omega, h.stop p (.inl h1) (by omega)⟩)
  · by_cases h3 : 4294967296 * r + d < q * y0
    · have h5 : 1 ≤ q := by
        refine Decidable.by_contra fun hn => ?_
        obtain rfl : q = 0 := by have := h.q0; omega
        have := h.r0
        have := p.d0
        omega
      by_cases h2 : r + y1 < 4294967296
      · exact .inr (.inr (.inl ⟨by omega, h5, h3, h2, h.next p (.inr (by omega)) h2⟩))
      · exact .inr (.inr (.inr (.inl ⟨by omega, h5, h3, by omega, h.stop p (.inr (by omega)) (by omega)⟩)))
    · exact .inr (.inr (.inr (.inr ⟨by omega, by omega, h.done p (by omega) (by omega)⟩)))
/-- The wrapped difference comes to what is left. -/
theorem DgF.left {U d y1 y0 q : Int} (h : DgF U d y1 y0 q) (p : DgP U d y1 y0) :
    IntKind.u64.wrap (IntKind.u64.wrap (IntKind.u64.wrap (U * 4294967296) + d) - IntKind.u64.wrap (q * (y1 * 4294967296 + y0))) = U * 4294967296 + d - q * (y1 * 4294967296 + y0) := by
  obtain ⟨u0, u1, d0, d1, y10, y11, y00, y01⟩ := p
  obtain ⟨q0, q1, lo, up⟩ := h
  have up' : U * 4294967296 + d - q * (y1 * 4294967296 + y0) < y1 * 4294967296 + y0 := by grind
  rw [wrapU, wrapU, wrapU, wrapU]
  generalize q * (y1 * 4294967296 + y0) = z at *
  omega
theorem DgF.rest {U d y1 y0 q : Int} (h : DgF U d y1 y0 q) (p : DgP U d y1 y0) {e : Int} (e0 : 0 ≤ e) (e1 : e < 4294967296) : DgP (U * 4294967296 + d - q * (y1 * 4294967296 + y0)) e y1 y0 := by
  obtain ⟨u0, u1, d0, d1, y10, y11, y00, y01⟩ := p
  obtain ⟨q0, q1, lo, up⟩ := h
  exact ⟨by omega, by grind, e0, e1, y10, y11, y00, y01⟩
theorem div_end {U u1 u0 T y Y q k R S : Int} {n : Nat} (eY : y * 2 ^ n = Y) (hT : U * 18446744073709551616 + u1 * 4294967296 + u0 = T * 2 ^ n) (hR : R = U * 4294967296 + u1 - q * Y) (hS : S = R * 4294967296 + u0 - k * Y)
    (s0 : 0 ≤ S) (s1 : S < Y) : (q * 4294967296 + k) * y + S / 2 ^ n = T ∧ 0 ≤ S / 2 ^ n ∧ S / 2 ^ n < y := by
  have hp : (0 : Int) < 2 ^ n := Int.pow_pos (by omega)
  have e : S = (T - (q * 4294967296 + k) * y) * 2 ^ n := by subst eY hR hS; grind
  have e2 : S / 2 ^ n = T - (q * 4294967296 + k) * y := by rw [e]; exact Int.mul_ediv_cancel _ (by omega)
  refine ⟨by omega, Int.ediv_nonneg s0 (by omega), ?_⟩
  rw [← eY] at s1
  exact Int.ediv_lt_of_lt_mul hp s1
theorem and_mask (x : Int) (h0 : 0 ≤ x) (h1 : x ≤ 18446744073709551615) : bits .and .u64 x 4294967295 = x % 4294967296 := by
  rw [u64_and x 4294967295 h0 (by omega) (by omega) (by omega)]
  have h := Nat.and_two_pow_sub_one_eq_mod x.toNat 32
  have h2 : (4294967295 : Int).toNat = 2 ^ 32 - 1 := rfl
  rw [h2, h]
  omega

/-- The parts of a dividend and a divisor that are shifted to the left. -/
theorem norm (hi lo y : Int) (n : Nat) (h0 : 0 < hi) (h1 : hi < y) (h3 : 0 ≤ lo) (h4 : lo ≤ 18446744073709551615) (hn : n ≤ 63)
    (hy0 : 9223372036854775807 < y * 2 ^ n) (hy1 : y * 2 ^ n ≤ 18446744073709551615) :
    ∃ Y y1 y0 U u1 u0 V : Int, y * 2 ^ n = Y ∧ Y / 4294967296 = y1 ∧ bits .and .u64 Y 4294967295 = y0 ∧ bits .or .u64 (IntKind.u64.wrap (hi * 2 ^ n)) (lo / 2 ^ (64 - n)) = U ∧
      IntKind.u64.wrap (lo * 2 ^ n) = V ∧ V / 4294967296 = u1 ∧ bits .and .u64 V 4294967295 = u0 ∧ 0 ≤ u0 ∧ u0 < 4294967296 ∧ Y = y1 * 4294967296 + y0 ∧ 0 ≤ V ∧ V ≤ 18446744073709551615 ∧
      DgP U u1 y1 y0 ∧ U * 18446744073709551616 + u1 * 4294967296 + u0 = (hi * 18446744073709551616 + lo) * 2 ^ n := by
  obtain ⟨hi, rfl⟩ := Int.eq_ofNat_of_zero_le (Int.le_of_lt h0)
  obtain ⟨lo, rfl⟩ := Int.eq_ofNat_of_zero_le h3
  obtain ⟨y, rfl⟩ := Int.eq_ofNat_of_zero_le (show 0 ≤ y by omega)
  have hp : 0 < 2 ^ n := Nat.two_pow_pos n
  have hpq : 2 ^ n * 2 ^ (64 - n) = 18446744073709551616 := by rw [← Nat.pow_add, show n + (64 - n) = 64 by omega]
  have hq : 0 < 2 ^ (64 - n) := Nat.two_pow_pos _
  have hp2 : 2 ^ n ≤ 9223372036854775808 := by
    have := Nat.pow_le_pow_right (show 0 < 2 by omega) hn
    simpa using this
  have c2 : ((2 : Int) ^ n) = ((2 ^ n : Nat) : Int) := by simp
  have c3 : ((2 : Int) ^ (64 - n)) = ((2 ^ (64 - n) : Nat) : Int) := by simp
  rw [c2] at hy0 hy1 ⊢
  rw [c3]
  generalize hP : 2 ^ n = p at *
  generalize hQ : 2 ^ (64 - n) = q at *
  clear c2 c3
  -- everything over the natural numbers
  have hhi : (hi + 1) * p ≤ y * p := Nat.mul_le_mul_right _ (by omega)
  have hy1' : y * p ≤ 18446744073709551615 := by have : ((y * p : Nat) : Int) ≤ 18446744073709551615 := by rw [Int.natCast_mul]; exact hy1
                                                 omega
  have hy0' : 9223372036854775807 < y * p := by have : 9223372036854775807 < ((y * p : Nat) : Int) := by rw [Int.natCast_mul]; exact hy0
                                                omega
  have hexp : (hi + 1) * p = hi * p + p := by rw [Nat.add_mul, Nat.one_mul]
  have hhip : hi * p < 18446744073709551616 := by omega
  -- the lower part
  have hlo := Nat.div_add_mod lo q
  have hloq : lo / q < p := (Nat.div_lt_iff_lt_mul hq).2 (by rw [hpq]; omega)
  have hlom := Nat.mod_lt lo hq
  have hlop : lo * p = (lo / q) * 18446744073709551616 + (lo % q) * p := by
    conv => lhs; rw [← hlo]
    rw [Nat.add_mul, ← hpq]
    congr 1
    rw [Nat.mul_comm q, Nat.mul_assoc, Nat.mul_comm q]
  have hlm : (lo % q) * p < 18446744073709551616 := by
    have : (lo % q) * p < q * p := Nat.mul_lt_mul_of_pos_right hlom hp
    rw [Nat.mul_comm q p, hpq] at this
    exact this
  have wlo : IntKind.u64.wrap ((lo : Int) * (p : Int)) = (((lo % q) * p : Nat) : Int) := by
    rw [wrapU, ← Int.natCast_mul, hlop]
    omega
  have whi : IntKind.u64.wrap ((hi : Int) * (p : Int)) = ((hi * p : Nat) : Int) := by
    rw [wrapU, ← Int.natCast_mul]
    omega
  have hor : bits .or .u64 (IntKind.u64.wrap ((hi : Int) * (p : Int))) ((lo : Int) / (q : Int)) = ((hi * p + lo / q : Nat) : Int) := by
    rw [whi, ← Int.natCast_ediv, u64_or_nat _ _ hhip (by omega), nat_join n (hi * p) (lo / q) (by rw [hP]; exact Nat.mul_mod_left _ _) (by rw [hP]; exact hloq)]
  have hV0 : (0 : Int) ≤ ((lo % q * p : Nat) : Int) := by omega
  refine ⟨_, _, _, _, _, _, _, rfl, rfl, and_mask _ (by omega) hy1, hor, wlo, rfl, and_mask _ hV0 (by omega), by omega, by omega, by omega, hV0, by omega, ?_, ?_⟩
  · rw [← Int.natCast_mul]
    refine ⟨by omega, ?_, by omega, by omega, by omega, by omega, by omega, by omega⟩
    omega
  · have e1 : ((hi : Int) * 18446744073709551616 + (lo : Int)) * (p : Int) = ((hi * p : Nat) : Int) * 18446744073709551616 + ((lo * p : Nat) : Int) := by
      rw [Int.natCast_mul, Int.natCast_mul]; grind
    rw [e1, hlop]
    omega
end Go.Proofs.YtkajibniibjblaaGreatDoor
