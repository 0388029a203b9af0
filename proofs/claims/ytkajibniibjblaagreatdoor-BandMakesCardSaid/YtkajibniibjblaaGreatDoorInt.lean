/-
  whole.Int.
-/
import Derived.Test.YtkajibniibjblaaGreatDoorGcd
namespace Go.Proofs.YtkajibniibjblaaGreatDoor
open Go.RowKit

theorem parse_far : ∀ (l : List UInt8) (acc : Nat), digs l = true → acc < 18446744073709551616 → 18446744073709551616 ≤ dval acc l → Lib.parseUint10 acc l = .range
  | [], acc, _, ha, hv => absurd (show 18446744073709551616 ≤ acc from hv) (by omega)
  | c :: r, acc, h, ha, hv => by
    have h' : isDg c = true ∧ digs r = true := by simpa only [digs, List.all_cons, Bool.and_eq_true] using h
    have hc : 48 ≤ c.toNat ∧ c.toNat ≤ 57 := of_decide_eq_true h'.1
    have hv : 18446744073709551616 ≤ dval (acc * 10 + (c.toNat - 48)) r := hv
    simp only [Lib.parseUint10]
    rw [if_pos hc]
    by_cases h1 : 1844674407370955162 ≤ acc
    · rw [if_pos h1]
    · rw [if_neg h1]
      by_cases h2 : 18446744073709551616 ≤ acc * 10 + (c.toNat - 48)
      · rw [if_pos h2]
      · rw [if_neg h2]
        exact parse_far r _ h'.2 (by omega) hv

theorem decDigits_ne (u : Nat) : Lib.decDigits u ≠ [] := fun e => by
  have h := Lib.decDigits_length u
  rw [e] at h
  have := Lib.nDigits_pos u
  simp at h; omega

theorem mag_ok {u : Nat} (h : u < 18446744073709551616) : Lib.parseMag (Lib.decDigits u) = .ok u := by
  rw [Lib.parseMag, if_neg (decDigits_ne u)]
  have h1 := parse_digs (Lib.decDigits u) 0 (digs_decDigits u) (by rw [dval_decDigits]; exact h)
  rw [h1, dval_decDigits]
theorem mag_far {u : Nat} (h : 18446744073709551616 ≤ u) : Lib.parseMag (Lib.decDigits u) = .range := by
  rw [Lib.parseMag, if_neg (decDigits_ne u)]
  exact parse_far _ 0 (digs_decDigits u) (by omega) (by rw [dval_decDigits]; exact h)

theorem dec_cons (u : Nat) : ∃ c r, Lib.decDigits u = c :: r ∧ c.toNat ≠ 43 ∧ c.toNat ≠ 45 := by
  have hd := digs_decDigits u
  cases h : Lib.decDigits u with
  | nil => exact absurd h (decDigits_ne u)
  | cons c r =>
    rw [h] at hd
    have h' : isDg c = true ∧ digs r = true := by simpa only [digs, List.all_cons, Bool.and_eq_true] using hd
    have hc : 48 ≤ c.toNat ∧ c.toNat ≤ 57 := of_decide_eq_true h'.1
    exact ⟨c, r, rfl, by omega, by omega⟩

theorem atoi_itoa_ok (z : Int) (h0 : -9223372036854775808 ≤ z) (h1 : z < 9223372036854775808) : Lib.atoiAll (Lib.itoa z) = .ok z := by
  by_cases hz : z < 0
  · rw [Lib.itoa, if_pos hz]
    simp only [Lib.atoiAll]
    rw [if_pos (by right; rfl), mag_ok (by omega)]
    have e : (45 : UInt8).toNat = 45 := rfl
    simp only [e, not_true, false_and, if_false, true_and, if_true]
    rw [if_neg (by omega)]
    congr 1
    omega
  · rw [Lib.itoa, if_neg hz]
    obtain ⟨c, r, h, c1, c2⟩ := dec_cons z.toNat
    have hm := mag_ok (u := z.toNat) (by omega)
    rw [h] at hm ⊢
    simp only [Lib.atoiAll]
    rw [if_neg (by omega), hm]
    simp only [c2, not_false_iff, true_and, false_and, if_false]
    rw [if_neg (by omega)]
    congr 1
    omega

theorem atoi_itoa_far (z : Int) (h : z < -9223372036854775808 ∨ 9223372036854775808 ≤ z) : Lib.atoiAll (Lib.itoa z) = .range := by
  by_cases hz : z < 0
  · rw [Lib.itoa, if_pos hz]
    simp only [Lib.atoiAll]
    rw [if_pos (by right; rfl)]
    have e : (45 : UInt8).toNat = 45 := rfl
    by_cases hu : z.natAbs < 18446744073709551616
    · rw [mag_ok hu]
      simp only [e, not_true, false_and, if_false, true_and, if_true]
      rw [if_pos (by omega)]
    · rw [mag_far (by omega)]
  · rw [Lib.itoa, if_neg hz]
    obtain ⟨c, r, h', c1, c2⟩ := dec_cons z.toNat
    by_cases hu : z.toNat < 18446744073709551616
    · have hm := mag_ok hu
      rw [h'] at hm ⊢
      simp only [Lib.atoiAll]
      rw [if_neg (by omega), hm]
      simp only [c2, not_false_iff, true_and, false_and, if_false]
      rw [if_pos (by omega)]
    · have hm := mag_far (u := z.toNat) (by omega)
      rw [h'] at hm ⊢
      simp only [Lib.atoiAll]
      rw [if_neg (by omega), hm]

set_option maxRecDepth 100000

theorem rangeBlock : Tryz.prog.globalNamed "strconv.ErrRange" = some 4 := by kernel_rfl

/-- The package-level variables: the table, and the error that tells a number out of range. -/
structure Env2 (w : World) : Prop extends Env w where
  range : ∃ tp p, w.var? Tryz.prog "strconv.ErrRange" = some #[.iface tp p]
  rlt : 4 < w.heap.size
theorem Env2.below {w w' : World} (h : Env2 w) (hb : Below w.heap.size w w') : Env2 w' :=
  ⟨h.toEnv.below hb, let ⟨tp, p, hv⟩ := h.range; ⟨tp, p, var?_below hb rangeBlock h.rlt hv⟩, Nat.lt_of_lt_of_le h.rlt hb.size⟩

/-- Int's answer at a valid text. -/
def inI (z : Int) : Bool := decide (-9223372036854775808 ≤ z ∧ z < 9223372036854775808)

theorem int_ok (w : World) (s : ByteArray) (z : Int) (hs : VW s z) (h0 : -9223372036854775808 ≤ z) (h1 : z < 9223372036854775808) :
    Calls Tryz.prog 90 #[.string s] w fun e w' => e = .returned (.tuple #[.int .i64 z, .int .i64 0]) ∧ Below w.heap.size w w' := by
  have hc := hs.ok
  have HP : Hid (Lib.atoiAll s.data.toList = .ok z) := by rw [hs.text]; exact atoi_itoa_ok z h0 h1
  have hl : s.size ≤ 9223372036854775806 := by
    have h2 : s.size = s.data.toList.length := rfl
    have h3 : Lib.nDigits z.natAbs ≤ 600 := by simpa [fits] using hs.fits_
    have h4 : (Lib.itoa z).length ≤ Lib.nDigits z.natAbs + 1 := by
      rw [itoa_sgn, List.length_append, Lib.decDigits_length]
      split <;> simp <;> omega
    rw [h2, hs.text]; omega
  go_enter Tryz.func90, Tryz.ntmps90
  go_wp2_with (first
    | (go_at_call 130; go_must (refine (check_any _ _).mono ?_; rintro e wa ⟨rfl, hba⟩; rw [hc]))
    | (go_at_call 146; go_must (refine (Tryz.strconv_Atoi_ok s hl z HP.out _).mono ?_; rintro e wb ⟨rfl, hwb⟩)))
  go_ret2
  refine ⟨rfl, chain hba ?_⟩
  rcases hwb with h | ⟨t, h⟩
  · rw [h]; exact Below.refl _ _
  · rw [h]; exact Lib.bytesWorld_below _ _ _

theorem int_far (w : World) (henv : Env2 w) (s : ByteArray) (z : Int) (hs : VW s z) (h : z < -9223372036854775808 ∨ 9223372036854775808 ≤ z) :
    Calls Tryz.prog 90 #[.string s] w fun e w' => e = .returned (.tuple #[.int .i64 0, .int .i64 6]) ∧ Below w.heap.size w w' := by
  have hc := hs.ok
  have HP : Hid (Lib.atoiAll s.data.toList = .range) := by rw [hs.text]; exact atoi_itoa_far z h
  have hl : s.size ≤ 281474976710656 := by
    have h2 : s.size = s.data.toList.length := rfl
    have h3 : Lib.nDigits z.natAbs ≤ 600 := by simpa [fits] using hs.fits_
    have h4 : (Lib.itoa z).length ≤ Lib.nDigits z.natAbs + 1 := by
      rw [itoa_sgn, List.length_append, Lib.decDigits_length]
      split <;> simp <;> omega
    rw [h2, hs.text]; omega
  go_enter Tryz.func90, Tryz.ntmps90
  go_wp2_with (first
    | (go_at_call 130; go_must (refine (check_any _ _).mono ?_; rintro e wa ⟨rfl, hba⟩; rw [hc]; obtain ⟨tp, p, hv⟩ := (henv.below hba).range; have HV := Lib.hid hv; clear hv))
    | (go_at_call 146; go_must (refine (Tryz.strconv_Atoi_range_var s hl HP.out tp p _ HV.out).mono ?_; rintro e wb ⟨NN, rfl, hNN, hcell, hwb⟩)))
  go_ret2
  exact ⟨rfl, chain hba hwb⟩

theorem int_none (w : World) :
    Calls Tryz.prog 90 #[.string ⟨#[]⟩] w fun e w' => e = .returned (.tuple #[.int .i64 0, .int .i64 10]) ∧ Below w.heap.size w w' := by
  have hc : wokE ⟨#[]⟩ = 10 := by rfl
  go_enter Tryz.func90, Tryz.ntmps90
  go_wp2_with (go_at_call 130; go_must (refine (check_any _ _).mono ?_; rintro e wa ⟨rfl, hba⟩; rw [hc]))
  go_ret2
  exact ⟨rfl, hba⟩

end Go.Proofs.YtkajibniibjblaaGreatDoor
