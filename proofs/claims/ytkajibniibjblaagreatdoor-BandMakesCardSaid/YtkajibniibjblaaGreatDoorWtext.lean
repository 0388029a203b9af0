/-
  Texts of whole numbers: which ones are valid, and what they say.
-/
import Derived.Test.YtkajibniibjblaaGreatDoorTold
import Derived.Laws.RangeString
import Derived.Laws.RangeAny
import Derived.Lib.AtoiAllCases
import Derived.Lib.ParseIntBCases
namespace Go.Proofs.YtkajibniibjblaaGreatDoor
open Go.RowKit

def isDg (c : UInt8) : Bool := decide (48 ≤ c.toNat ∧ c.toNat ≤ 57)
def digs (l : List UInt8) : Bool := l.all isDg
def dval (acc : Nat) : List UInt8 → Nat
  | [] => acc
  | c :: r => dval (acc * 10 + (c.toNat - 48)) r

theorem dval_append (acc : Nat) (l r : List UInt8) : dval acc (l ++ r) = dval (dval acc l) r := by
  induction l generalizing acc with
  | nil => rfl
  | cons c l ih => exact ih _
theorem acc_step (a k p D : Nat) : (a * 10 + k) * p + D = a * (p * 10) + ((0 * 10 + k) * p + D) := by
  rw [Nat.add_mul, Nat.mul_assoc, Nat.zero_mul, Nat.zero_add, Nat.mul_comm 10 p, Nat.add_assoc]
theorem dval_acc (acc : Nat) (l : List UInt8) : dval acc l = acc * 10 ^ l.length + dval 0 l := by
  induction l generalizing acc with
  | nil => show acc = acc * 10 ^ 0 + 0; rw [Nat.pow_zero, Nat.mul_one]; rfl
  | cons c l ih =>
    show dval (acc * 10 + (c.toNat - 48)) l = acc * 10 ^ (l.length + 1) + dval (0 * 10 + (c.toNat - 48)) l
    rw [ih (acc * 10 + (c.toNat - 48)), ih (0 * 10 + (c.toNat - 48)), Nat.pow_succ]
    exact acc_step _ _ _ _
theorem lt_step {k p D : Nat} (hk : k ≤ 9) (hD : D < p) : (0 * 10 + k) * p + D < p * 10 := by
  have h : (0 * 10 + k) * p ≤ 9 * p := Nat.mul_le_mul_right p (by omega)
  omega
theorem dval_lt : ∀ {l : List UInt8}, digs l = true → dval 0 l < 10 ^ l.length
  | [], _ => by show 0 < 10 ^ 0; exact Nat.one_pos
  | c :: l, h => by
    have h' : isDg c = true ∧ digs l = true := by simpa only [digs, List.all_cons, Bool.and_eq_true] using h
    have h1 := dval_lt h'.2
    have h0 : 48 ≤ c.toNat ∧ c.toNat ≤ 57 := of_decide_eq_true h'.1
    show dval (0 * 10 + (c.toNat - 48)) l < 10 ^ (l.length + 1)
    rw [dval_acc, Nat.pow_succ]
    exact lt_step (by omega) h1
theorem digs_decDigits (u : Nat) : digs (Lib.decDigits u) = true := by
  induction u using Nat.strongRecOn with
  | _ u ih =>
    by_cases h : u < 10
    · rw [Lib.decDigits, dif_pos h]
      have h1 : (UInt8.ofNat (48 + u)).toNat = 48 + u := by simp; omega
      simp [digs, isDg]; omega
    · rw [decDigits_big h, digs, List.all_append, Bool.and_eq_true]
      refine ⟨ih _ (by omega), ?_⟩
      simp [isDg]; omega
theorem dval_one (k : Nat) (hk : k < 10) : dval 0 [UInt8.ofNat (48 + k)] = k := by
  have h : (UInt8.ofNat (48 + k)).toNat = 48 + k := by simp; omega
  show 0 * 10 + ((UInt8.ofNat (48 + k)).toNat - 48) = k
  omega
theorem dval_snoc (acc k : Nat) (l : List UInt8) (hk : k < 10) : dval acc (l ++ [UInt8.ofNat (48 + k)]) = dval acc l * 10 + k := by
  have h : (UInt8.ofNat (48 + k)).toNat = 48 + k := by simp; omega
  rw [dval_append]
  generalize dval acc l = a
  show a * 10 + ((UInt8.ofNat (48 + k)).toNat - 48) = a * 10 + k
  omega
theorem decDigits_one {u : Nat} (h : u < 10) : Lib.decDigits u = [UInt8.ofNat (48 + u)] := by rw [Lib.decDigits, dif_pos h]
theorem dval_decDigits (u : Nat) : dval 0 (Lib.decDigits u) = u := by
  induction u using Nat.strongRecOn with
  | _ u ih =>
    by_cases h : u < 10
    · exact (congrArg (dval 0) (decDigits_one h)).trans (dval_one u h)
    · refine (congrArg (dval 0) (decDigits_big h)).trans ?_
      refine (dval_snoc _ _ _ (by omega)).trans ?_
      rw [ih _ (by omega)]
      omega

theorem decDigits_snoc {u d : Nat} (hu : 0 < u) (hd : d < 10) : Lib.decDigits (u * 10 + d) = Lib.decDigits u ++ [UInt8.ofNat (48 + d)] := by
  rw [decDigits_big (by omega)]
  rw [show (u * 10 + d) / 10 = u by omega, show (u * 10 + d) % 10 = d by omega]

theorem dg_eq {c : UInt8} (h : isDg c = true) : ∃ k, k < 10 ∧ c = UInt8.ofNat (48 + k) := by
  have h0 : 48 ≤ c.toNat ∧ c.toNat ≤ 57 := of_decide_eq_true h
  refine ⟨c.toNat - 48, by omega, ?_⟩
  apply UInt8.toNat_inj.1
  simp; omega

/-- Digits without a leading zero are the numeral of what they say. -/
theorem decDigits_dval : ∀ (n : Nat) (l : List UInt8), l.length = n + 1 → digs l = true → l.head? ≠ some 48 → ∃ v, dval 0 l = v ∧ l = Lib.decDigits v ∧ 0 < v
  | 0, l, hl, hd, hz => by
    obtain ⟨c, rfl⟩ := List.length_eq_one_iff.1 hl
    have hc : isDg c = true := by simpa [digs] using hd
    obtain ⟨k, hk, rfl⟩ := dg_eq hc
    refine ⟨k, dval_one k hk, (decDigits_one hk).symm, ?_⟩
    refine Nat.pos_of_ne_zero fun e => ?_
    subst e
    exact hz rfl
  | n + 1, l, hl, hd, hz => by
    have hne : l ≠ [] := by intro e; simp [e] at hl
    obtain ⟨m, c, rfl⟩ : ∃ m c, l = m ++ [c] := ⟨l.dropLast, l.getLast hne, (List.dropLast_concat_getLast hne).symm⟩
    have hm : m.length = n + 1 := by simpa using hl
    simp only [digs, List.all_append, Bool.and_eq_true] at hd
    have hc : isDg c = true := by simpa using hd.2
    obtain ⟨k, hk, rfl⟩ := dg_eq hc
    have hh : m.head? ≠ some 48 := by
      rcases m with _ | ⟨x, m⟩
      · simp
      · simpa using hz
    obtain ⟨v, h1, h2, h3⟩ := decDigits_dval n m hm hd.1 hh
    refine ⟨v * 10 + k, ?_, ?_, by omega⟩
    · rw [dval_snoc _ _ _ hk, h1]
    · rw [decDigits_snoc h3 hk, ← h2]

theorem decDigits_head {u : Nat} (h : 0 < u) : (Lib.decDigits u).head? ≠ some 48 := by
  induction u using Nat.strongRecOn with
  | _ u ih =>
    by_cases h9 : u < 10
    · rw [Lib.decDigits, dif_pos h9]
      simp
      intro e
      have := congrArg UInt8.toNat e
      simp at this; omega
    · rw [decDigits_big h9]
      have h1 := ih (u / 10) (by omega) (by omega)
      cases hx : Lib.decDigits (u / 10) with
      | nil => have := Lib.decDigits_length (u / 10); rw [hx] at this; have := Lib.nDigits_pos (u / 10); simp at *; omega
      | cons x r => rw [hx] at h1; simpa using h1

/-- A valid text of a whole number, as the code tests it. -/
def wok (s : ByteArray) : Bool :=
  let t := Lib.trimPrefix s.data.toList [45]
  decide (t ≠ []) && decide (t.length ≤ 600) && digs t && !(decide (t.head? = some 48) && (decide (1 < t.length) || decide (1 < s.size)))

theorem trimPrefix_minus (r : List UInt8) : Lib.trimPrefix (45 :: r) [45] = r := by simp [Lib.trimPrefix, Lib.hasPrefix]
theorem trimPrefix_other {l : List UInt8} (h : l.head? ≠ some 45) : Lib.trimPrefix l [45] = l := by
  rcases l with _ | ⟨c, r⟩
  · simp [Lib.trimPrefix, Lib.hasPrefix]
  · have : ¬ (45 : UInt8) = c := by intro e; simp [e] at h
    simp [Lib.trimPrefix, Lib.hasPrefix, this]

theorem decDigits_head_minus (u : Nat) : (Lib.decDigits u).head? ≠ some 45 := by
  have h := digs_decDigits u
  cases hx : Lib.decDigits u with
  | nil => simp
  | cons x r =>
    rw [hx] at h
    simp [digs, isDg] at h
    intro e
    simp at e
    rw [e] at h
    simp at h

/-- What stands behind the sign of a numeral. -/
theorem trim_itoa (z : Int) : Lib.trimPrefix (Lib.itoa z) [45] = Lib.decDigits z.natAbs := by
  unfold Lib.itoa
  split
  · exact trimPrefix_minus _
  · rw [trimPrefix_other (decDigits_head_minus _)]
    congr 1
    omega

theorem wok_itoa (z : Int) (hf : fits z = true) (s : ByteArray) (hs : s.data.toList = Lib.itoa z) : wok s = true := by
  have h1 := Lib.decDigits_length z.natAbs
  have h2 := Lib.nDigits_pos z.natAbs
  have h3 : Lib.nDigits z.natAbs ≤ 600 := by simpa [fits] using hf
  have hsz : s.size = (Lib.itoa z).length := by rw [← hs]; rfl
  unfold wok
  rw [hs, trim_itoa]
  simp only [Bool.and_eq_true, decide_eq_true_eq, Bool.not_eq_true']
  refine ⟨⟨⟨?_, by omega⟩, digs_decDigits _⟩, ?_⟩
  · intro e; rw [e] at h1; simp at h1; omega
  · by_cases h0 : z = 0
    · subst h0
      have : Lib.itoa 0 = [48] := by simp [Lib.itoa, Lib.decDigits]
      rw [hsz, this]
      simp [Lib.decDigits]
    · have := decDigits_head (u := z.natAbs) (by omega)
      simp [this]

theorem wok_some (s : ByteArray) (h : wok s = true) : ∃ z, fits z = true ∧ s.data.toList = Lib.itoa z := by
  unfold wok at h
  simp only [Bool.and_eq_true, decide_eq_true_eq, Bool.not_eq_true', Bool.and_eq_false_imp, Bool.or_eq_false_iff, decide_eq_false_iff_not] at h
  obtain ⟨⟨⟨h1, h2⟩, h3⟩, h4⟩ := h
  have hsz : s.size = s.data.toList.length := rfl
  generalize hl : s.data.toList = l at *
  -- what stands behind the sign is a numeral
  obtain ⟨t, ht⟩ : ∃ t, Lib.trimPrefix l [45] = t := ⟨_, rfl⟩
  rw [ht] at h1 h2 h3 h4
  obtain ⟨n, hn⟩ : ∃ n, t.length = n + 1 := ⟨t.length - 1, by have := List.length_pos_iff.2 h1; omega⟩
  have hsgn : l = t ∨ l = 45 :: t := by
    rcases l with _ | ⟨c, r⟩
    · left; rw [← ht]; rw [trimPrefix_other (by simp)]
    · by_cases e : c = 45
      · subst e; right; rw [trimPrefix_minus] at ht; rw [ht]
      · left; rw [← ht, trimPrefix_other (by simpa using e)]
  by_cases hz : t.head? = some 48
  · have := h4 hz
    have hn0 : n = 0 := by omega
    subst hn0
    obtain ⟨c, rfl⟩ := List.length_eq_one_iff.1 hn
    obtain rfl : c = 48 := by simpa using hz
    rcases hsgn with rfl | rfl
    · exact ⟨0, fits_zero, by simp [Lib.itoa, Lib.decDigits]⟩
    · rw [hsz] at this; simp at this
  · obtain ⟨v, e0, e1, e2⟩ := decDigits_dval n t hn h3 hz
    have hle : Lib.nDigits v ≤ 600 := by rw [← Lib.decDigits_length, ← e1]; exact h2
    rcases hsgn with e | e
    · exact ⟨(v : Int), by simpa [fits] using hle, by rw [e, Lib.itoa, if_neg (by omega)]; exact e1⟩
    · exact ⟨-(v : Int), by simpa [fits] using hle, by rw [e, Lib.itoa, if_pos (by omega), Int.natAbs_neg]; exact congrArg _ e1⟩

/-- No rune that is no digit: all bytes are digits. -/
def noDg (r : Nat) : Bool := decide (r < 48) || decide (57 < r)

theorem idx_digs (s : ByteArray) : ∀ (f pos : Nat), s.size ≤ pos + f → (decide (0 ≤ Lib.idxFuncFrom noDg true s f pos)) = !(digs (s.data.toList.drop pos))
  | 0, pos, h => by
    have : s.data.toList.drop pos = [] := List.drop_eq_nil_of_le (by have : s.size = s.data.toList.length := rfl; omega)
    rw [this]
    simp [Lib.idxFuncFrom, digs]
  | f + 1, pos, h => by
    by_cases hp : pos < s.size
    · have hlt : pos < s.data.toList.length := hp
      have hd : s.data.toList.drop pos = (s[pos]'hp) :: s.data.toList.drop (pos + 1) := by
        rw [List.drop_eq_getElem_cons hlt]; rfl
      rw [hd]
      simp only [Lib.idxFuncFrom, hp, if_true, digs, List.all_cons]
      by_cases ha : (s[pos]'hp).toNat < 128
      · have e := decode_ascii s pos hp ha
        rw [e]
        simp only
        have ih := idx_digs s f (pos + 1) (by omega)
        by_cases hg : noDg (s[pos]'hp).toNat = true
        · have : isDg (s[pos]'hp) = false := by simp [noDg, isDg] at hg ⊢; omega
          simp [hg, this]
        · have : isDg (s[pos]'hp) = true := by simp [noDg, isDg] at hg ⊢; omega
          simp only [Bool.not_eq_true] at hg
          simp only [hg, this, Bool.true_and]
          simpa [digs] using ih
      · have e := decode_high s pos hp (by omega)
        have hg : noDg (Utf8.decode s pos).1 = true := by simp [noDg]; omega
        have : isDg (s[pos]'hp) = false := by simp [isDg]; omega
        simp [hg, this]
    · have : s.data.toList.drop pos = [] := List.drop_eq_nil_of_le (by have : s.size = s.data.toList.length := rfl; omega)
      rw [this, Lib.idxFuncFrom_end _ _ _ _ _ hp]
      simp [digs]

/-- Digits parsed. -/
theorem parse_digs : ∀ (l : List UInt8) (acc : Nat), digs l = true → dval acc l < 18446744073709551616 → Lib.parseUint10 acc l = .ok (dval acc l)
  | [], acc, _, _ => rfl
  | c :: r, acc, h, hv => by
    simp only [digs, List.all_cons, Bool.and_eq_true] at h
    have hc : 48 ≤ c.toNat ∧ c.toNat ≤ 57 := by simpa [isDg] using h.1
    have hv : dval (acc * 10 + (c.toNat - 48)) r < 18446744073709551616 := hv
    show _ = Lib.NumEnd.ok (dval (acc * 10 + (c.toNat - 48)) r)
    have hle : acc * 10 + (c.toNat - 48) ≤ dval (acc * 10 + (c.toNat - 48)) r := by
      rw [dval_acc]
      have : 1 ≤ 10 ^ r.length := Nat.one_le_pow _ _ (by decide)
      have := Nat.mul_le_mul_left (acc * 10 + (c.toNat - 48)) this
      omega
    simp only [Lib.parseUint10]
    rw [if_pos hc, if_neg (by omega), if_neg (by omega)]
    exact parse_digs r _ h.2 hv

theorem parseB_digs {l : List UInt8} (h : digs l = true) (hne : l ≠ []) (hl : l.length ≤ 19) : Lib.parseUintB 64 l = .ok (dval 0 l) := by
  rw [Lib.parseUintB_64, Lib.parseMag, if_neg hne]
  refine parse_digs l 0 h (Nat.lt_of_lt_of_le (dval_lt h) (Nat.le_trans (Nat.pow_le_pow_right (by decide) hl) (by decide)))

end Go.Proofs.YtkajibniibjblaaGreatDoor
