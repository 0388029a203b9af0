/-
  Digits to the base 10^4, the lowest first: the reference's numbers. No program in sight.
  The reference's numbers: cut, order, once, product, difference, sum.
  The reference's numbers: once, product, difference, sum.
  The reference's numbers: difference, sum.
-/
import Derived.Test.YtkajibniibjblaaGreatDoorDigits
import Derived.Test.YtkajibniibjblaaGreatDoorMassA
import Derived.Lib.Hide
namespace Go.Proofs.YtkajibniibjblaaGreatDoor.P4
open Go.RowKit

/-- The number of a list of digits to the base 10^4, the lowest first. -/
def val : List Int → Int
  | [] => 0
  | x :: xs => x + 10000 * val xs

/-- All digits are digits. -/
def Dig (xs : List Int) : Prop := ∀ d ∈ xs, 0 ≤ d ∧ d < 10000

/-- The list is the list of the digits of n. -/
structure Nm (xs : List Int) (n : Nat) : Prop where
  dig : Dig xs
  tr : tl xs = xs
  val_ : val xs = n

/-- A reference number of at most L groups that is the number n. -/
def Ms (w : World) (L : Nat) (A : Option Addr) (len c : Nat) (n : Nat) : Prop := len ≤ L ∧ ∃ xs, Rd w .i64 A len c xs ∧ Nm xs n

theorem Ms.below {w w' : World} {L : Nat} {A : Option Addr} {len c n : Nat} (h : Ms w L A len c n) (hb : Below w.heap.size w w') : Ms w' L A len c n :=
  let ⟨hl, xs, hr, hn⟩ := h
  ⟨hl, xs, hr.below hb, hn⟩
theorem Ms.setCell {w : World} {L : Nat} {A : Option Addr} {len c n g j : Nat} {u : Value} (h : Ms w L A len c n) (hg : ∀ ad, A = some ad → 0 < len → ad.block ≠ g) : Ms (w.setCell ⟨g, j, none⟩ u) L A len c n := by
  obtain ⟨hl, xs, hr, hn⟩ := h
  refine ⟨hl, xs, ⟨hr.len, hr.cap, hr.most, hr.nil_, fun k d hd => ?_⟩, hn⟩
  obtain ⟨b, off, e, hb, hc⟩ := hr.at_ k d hd
  have hk := (List.getElem?_eq_some_iff.1 hd).1
  have hne := hg _ e (by rw [← hr.len]; omega)
  refine ⟨b, off, e, by simpa [World.setCell] using hb, ?_⟩
  rw [World.cell?_setCell_other w ⟨g, j, none⟩ ⟨b, off + k, none⟩ u (fun h => hne (by injection h with h; exact h.symm))]
  exact hc
/-- A Mass that is not empty lies in a block of its world. -/
theorem Ms.old {w : World} {L : Nat} {A : Option Addr} {len c n : Nat} (h : Ms w L A len c n) : ∀ ad, A = some ad → 0 < len → ad.block < w.heap.size := by
  intro ad e hl
  obtain ⟨_, xs, hr, _⟩ := h
  obtain ⟨b, off, _, e', _, hb, _⟩ := hr.get hl
  rw [e] at e'
  injection e' with e'
  rw [e']
  exact hb
theorem Ms.mono {w : World} {L L' : Nat} {A : Option Addr} {len c n : Nat} (h : Ms w L A len c n) (hL : L ≤ L') : Ms w L' A len c n :=
  ⟨Nat.le_trans h.1 hL, h.2⟩

/-- A call returned a Mass that is the number n, and made at most new memory. -/
def RetM (w : World) (L n : Nat) : Ending → World → Prop := fun e w' => ∃ A len c, e = .returned (.slice A len c) ∧ Ms w' L A len c n ∧ Below w.heap.size w w' ∧ ∀ ad, A = some ad → w.heap.size ≤ ad.block


/-! ### digits -/
theorem Dig.nil : Dig [] := fun _ h => by simp at h
theorem Dig.cons {x : Int} {xs : List Int} : Dig (x :: xs) ↔ (0 ≤ x ∧ x < 10000) ∧ Dig xs := by simp [Dig]
theorem Dig.append {xs ys : List Int} : Dig (xs ++ ys) ↔ Dig xs ∧ Dig ys := by
  simp only [Dig, List.mem_append]
  exact ⟨fun h => ⟨fun d hd => h d (.inl hd), fun d hd => h d (.inr hd)⟩, fun h d hd => hd.elim (h.1 d) (h.2 d)⟩
theorem Dig.take {xs : List Int} (h : Dig xs) (k : Nat) : Dig (xs.take k) := fun d hd => h d (List.mem_of_mem_take hd)
theorem Dig.drop {xs : List Int} (h : Dig xs) (k : Nat) : Dig (xs.drop k) := fun d hd => h d (List.mem_of_mem_drop hd)
theorem Dig.get {xs : List Int} (h : Dig xs) {j : Nat} {d : Int} (hd : xs[j]? = some d) : 0 ≤ d ∧ d < 10000 := h d (List.mem_of_getElem? hd)
theorem Dig.tl {xs : List Int} (h : Dig xs) : Dig (tl xs) := by
  induction xs with
  | nil => exact Dig.nil
  | cons x xs ih =>
    rw [Dig.cons] at h
    simp only [Proofs.YtkajibniibjblaaGreatDoor.tl]
    split
    · exact Dig.nil
    · exact Dig.cons.2 ⟨h.1, ih h.2⟩
theorem val_nonneg {xs : List Int} (h : Dig xs) : 0 ≤ val xs := by
  induction xs with
  | nil => simp [val]
  | cons x xs ih =>
    rw [Dig.cons] at h
    have := ih h.2
    simp only [val]; omega
theorem val_tl (xs : List Int) : val (tl xs) = val xs := by
  induction xs with
  | nil => rfl
  | cons x xs ih =>
    simp only [tl]
    split
    · rename_i h
      simp [val, h.1, ← ih, h.2]
    · simp [val, ih]
theorem tl_tl (xs : List Int) : tl (tl xs) = tl xs := by
  induction xs with
  | nil => rfl
  | cons x xs ih =>
    by_cases h : x = 0 ∧ tl xs = []
    · simp [tl, h]
    · simp only [tl, if_neg h, ih]
theorem tl_length (xs : List Int) : (tl xs).length ≤ xs.length := by
  induction xs with
  | nil => simp [tl]
  | cons x xs ih =>
    simp only [tl]
    split <;> simp <;> omega
theorem tl_prefix (xs : List Int) : xs.take (tl xs).length = tl xs := by
  induction xs with
  | nil => rfl
  | cons x xs ih =>
    simp only [tl]
    split
    · simp
    · simp [ih]
theorem Nm.of_dig {xs : List Int} (h : Dig xs) {n : Nat} (hv : val xs = n) : Nm (tl xs) n := ⟨h.tl, tl_tl xs, (val_tl xs).trans hv⟩
theorem val_append (xs ys : List Int) : val (xs ++ ys) = val xs + 10000 ^ xs.length * val ys := by
  induction xs with
  | nil => simp [val]
  | cons x xs ih =>
    simp only [List.cons_append, val, ih, List.length_cons, Int.pow_succ]
    grind
theorem val_lt {xs : List Int} (h : Dig xs) : val xs < 10000 ^ xs.length := by
  induction xs with
  | nil => simp [val]
  | cons x xs ih =>
    rw [Dig.cons] at h
    have := ih h.2
    simp only [val, List.length_cons, Int.pow_succ]
    omega
theorem val_zero_iff {xs : List Int} (h : Dig xs) (ht : tl xs = xs) : val xs = 0 ↔ xs = [] := by
  constructor
  · intro hv
    induction xs with
    | nil => rfl
    | cons x xs ih =>
      rw [Dig.cons] at h
      have h0 := val_nonneg h.2
      simp only [val] at hv
      have hx : x = 0 := by omega
      have hvs : val xs = 0 := by omega
      by_cases hc : x = 0 ∧ tl xs = []
      · simp [tl, hc] at ht
      · simp only [tl, if_neg hc, List.cons.injEq, true_and] at ht
        have := ih h.2 ht hvs
        subst this
        exact absurd ⟨hx, rfl⟩ hc
  · rintro rfl; rfl
theorem tl_last {xs : List Int} (ht : tl xs = xs) (hne : xs ≠ []) : ∃ ys d, xs = ys ++ [d] ∧ d ≠ 0 := by
  have hsplit := List.dropLast_concat_getLast hne
  refine ⟨xs.dropLast, xs.getLast hne, hsplit.symm, fun h0 => ?_⟩
  rw [h0] at hsplit
  have h1 := tl_length xs.dropLast
  rw [← hsplit, tl_append_zero, hsplit] at ht
  have : (tl xs.dropLast).length = xs.length := by rw [ht]
  rw [List.length_dropLast] at h1
  have : 0 < xs.length := List.length_pos_iff.2 hne
  omega
theorem Nm.low {xs : List Int} {n : Nat} (h : Nm xs n) (hne : xs ≠ []) : (10000 : Int) ^ (xs.length - 1) ≤ n := by
  obtain ⟨ys, d, rfl, hd⟩ := tl_last h.tr hne
  have hdg := Dig.append.1 h.dig
  have h1 := (Dig.cons.1 hdg.2).1
  have h0 := val_nonneg hdg.1
  rw [← h.val_, val_append]
  simp only [val, List.length_append, List.length_cons, List.length_nil]
  have hp : (0 : Int) < 10000 ^ ys.length := Int.pow_pos (by omega)
  have : (10000 : Int) ^ ys.length * 1 ≤ 10000 ^ ys.length * (d + 10000 * 0) := Int.mul_le_mul_of_nonneg_left (by omega) (by omega)
  simp at this ⊢
  omega
theorem Nm.uniq {xs ys : List Int} {n : Nat} (h : Nm xs n) (k : Nm ys n) : xs = ys := by
  have main : ∀ (xs ys : List Int), Dig xs → Dig ys → tl xs = xs → tl ys = ys → val xs = val ys → xs = ys := by
    intro xs
    induction xs with
    | nil => intro ys _ dy _ ty hv; exact ((val_zero_iff dy ty).1 hv.symm).symm
    | cons x xs ih =>
      intro ys dx dy tx ty hv
      cases ys with
      | nil => exact (val_zero_iff dx tx).1 hv
      | cons y ys =>
        rw [Dig.cons] at dx dy
        simp only [val] at hv
        have hxy : x = y := by omega
        subst hxy
        have hvv : val xs = val ys := by omega
        have tx' : tl xs = xs := by
          by_cases hc : x = 0 ∧ tl xs = []
          · simp [tl, hc] at tx
          · simpa [tl, if_neg hc] using tx
        have ty' : tl ys = ys := by
          by_cases hc : x = 0 ∧ tl ys = []
          · simp [tl, hc] at ty
          · simpa [tl, if_neg hc] using ty
        rw [ih ys dx.2 dy.2 tx' ty' hvv]
  exact main xs ys h.dig k.dig h.tr k.tr (h.val_.trans k.val_.symm)
theorem Nm.nil : Nm [] 0 := ⟨Dig.nil, rfl, rfl⟩
theorem Nm.zero_iff {xs : List Int} {n : Nat} (h : Nm xs n) : n = 0 ↔ xs = [] := by
  rw [← val_zero_iff h.dig h.tr, h.val_]; omega

theorem val_split (xs : List Int) (k : Nat) : val xs = val (xs.take k) + 10000 ^ (xs.take k).length * val (xs.drop k) := by
  conv => lhs; rw [← List.take_append_drop k xs]
  exact val_append _ _
theorem pow_le {i j : Nat} (h : i ≤ j) : (10000 : Int) ^ i ≤ 10000 ^ j := by
  have : (10000 : Nat) ^ i ≤ 10000 ^ j := Nat.pow_le_pow_right (by omega) h
  have h2 : ((10000 ^ i : Nat) : Int) ≤ ((10000 ^ j : Nat) : Int) := by omega
  rwa [Int.natCast_pow, Int.natCast_pow] at h2
theorem Nm.lt_of_len {xs ys : List Int} {a b : Nat} (hx : Nm xs a) (hy : Nm ys b) (h : xs.length < ys.length) : a < b := by
  have h1 := val_lt hx.dig
  rw [hx.val_] at h1
  have hne : ys ≠ [] := by rintro rfl; simp at h
  have h2 := hy.low hne
  have h3 : (10000 : Int) ^ xs.length ≤ 10000 ^ (ys.length - 1) := pow_le (by omega)
  omega
theorem val_lt_of_digit {xs ys : List Int} (dx : Dig xs) (dy : Dig ys) {k : Nat} {x y : Int} (hl : xs.length = ys.length) (hd : xs.drop (k + 1) = ys.drop (k + 1))
    (hx : xs[k]? = some x) (hy : ys[k]? = some y) (h : x < y) : val xs < val ys := by
  have kx : k < xs.length := (List.getElem?_eq_some_iff.1 hx).1
  rw [val_split xs k, val_split ys k]
  have e1 : xs.drop k = x :: xs.drop (k + 1) := by rw [List.drop_eq_getElem_cons kx, (List.getElem?_eq_some_iff.1 hx).2]
  have e2 : ys.drop k = y :: ys.drop (k + 1) := by rw [List.drop_eq_getElem_cons (by omega), (List.getElem?_eq_some_iff.1 hy).2]
  have l1 : (xs.take k).length = k := by rw [List.length_take]; omega
  have l2 : (ys.take k).length = k := by rw [List.length_take]; omega
  have v1 := val_lt (dx.take k)
  have v2 := val_nonneg (dy.take k)
  rw [e1, e2, l1, l2, hd]
  rw [l1] at v1
  simp only [val]
  generalize val (ys.drop (k + 1)) = z
  have : (10000 : Int) ^ k * (x + 10000 * z) + 10000 ^ k * 1 ≤ 10000 ^ k * (y + 10000 * z) := by
    rw [← Int.mul_add]
    exact Int.mul_le_mul_of_nonneg_left (by omega) (Int.le_of_lt (Int.pow_pos (by omega)))
  omega


theorem val_set {cs : List Int} {j : Nat} {x : Int} (y : Int) (h : cs[j]? = some x) : val (cs.set j y) = val cs + 10000 ^ j * (y - x) := by
  induction cs generalizing j with
  | nil => simp at h
  | cons c cs ih =>
    cases j with
    | zero => simp at h; subst h; simp [val]; omega
    | succ j =>
      simp only [List.getElem?_cons_succ] at h
      simp only [List.set_cons_succ, val, ih h, Int.pow_succ]
      grind
theorem val_take_succ {ys : List Int} {k : Nat} {y : Int} (h : ys[k]? = some y) : val (ys.take (k + 1)) = val (ys.take k) + 10000 ^ k * y := by
  have hk : k < ys.length := (List.getElem?_eq_some_iff.1 h).1
  rw [List.take_add_one, h, val_append, List.length_take, Nat.min_eq_left (by omega)]
  simp [val]
theorem val_replicate (n : Nat) : val (List.replicate n 0) = 0 := by
  induction n with
  | zero => rfl
  | succ n ih => simp [List.replicate_succ, val, ih]

theorem Dig.set {cs : List Int} (h : Dig cs) {k : Nat} {x : Int} (h0 : 0 ≤ x) (h1 : x < 10000) : Dig (cs.set k x) := by
  intro d hd
  obtain ⟨j, hj⟩ := List.getElem?_of_mem hd
  rcases get_set hj with ⟨_, rfl⟩ | ⟨_, e⟩
  · exact ⟨h0, h1⟩
  · exact h.get e

/-- Minus. -/
structure MinA (n : Nat) (a : Int) (ys : List Int) (k : Nat) (bo : Int) (cs : List Int) : Prop where
  len : cs.length = n
  val_ : val cs = a - val (ys.take k) + 10000 ^ k * bo
  dig : Dig cs
theorem MinA.start {n : Nat} {a : Nat} {xs ys : List Int} (hx : Nm xs a) (hn : xs.length = n) : MinA n a ys 0 0 xs :=
  ⟨hn, by rw [hx.val_]; simp [val], hx.dig⟩
theorem MinA.step {n : Nat} {a bo bo' y x x' : Int} {ys cs : List Int} {k : Nat} (h : MinA n a ys k bo cs) (hx : cs[k]? = some x) (hy : val (ys.take (k + 1)) = val (ys.take k) + 10000 ^ k * y)
    (e : x' = x - bo - y + 10000 * bo') (h0 : 0 ≤ x') (h1 : x' < 10000) : MinA n a ys (k + 1) bo' (cs.set k x') := by
  refine ⟨by rw [List.length_set]; exact h.len, ?_, h.dig.set h0 h1⟩
  rw [val_set _ hx, hy, h.val_, e, Int.pow_succ]
  grind
theorem val_take_late {ys : List Int} {k : Nat} (h : ys.length ≤ k) : val (ys.take (k + 1)) = val (ys.take k) + 10000 ^ k * 0 := by
  rw [List.take_of_length_le (by omega), List.take_of_length_le h]; omega
theorem MinA.done {n : Nat} {a b : Nat} {bo : Int} {ys cs : List Int} (h : MinA n a ys n bo cs) (hy : Nm ys b) (hm : ys.length ≤ n) (hle : b ≤ a) (hb : bo = 0 ∨ bo = 1) : val cs = ((a - b : Nat) : Int) := by
  have hv := h.val_
  rw [List.take_of_length_le hm, hy.val_] at hv
  have hlt := val_lt h.dig
  rw [h.len] at hlt
  rcases hb with rfl | rfl
  · omega
  · omega

/-- by: what has been divided so far, from the highest group down. -/
structure ByA (n : Nat) (xs : List Int) (d : Int) (k : Nat) (rest : Int) (cs : List Int) : Prop where
  len : cs.length = n
  eq : val (cs.drop k) * d + rest = val (xs.drop k)
  dig : Dig cs
  r0 : 0 ≤ rest
  r1 : rest < d
theorem Dig.replicate (n : Nat) : Dig (List.replicate n 0) := by
  intro d hd
  have := List.eq_of_mem_replicate hd
  omega
theorem ByA.start {n : Nat} {xs : List Int} {d : Int} (hn : xs.length = n) (hd : 0 < d) : ByA n xs d n 0 (List.replicate n 0) :=
  ⟨by simp, by rw [List.drop_of_length_le (by simp), List.drop_of_length_le (by omega)]; simp [val], Dig.replicate n, by omega, hd⟩
theorem val_drop {xs : List Int} {i : Nat} {x : Int} (h : xs[i]? = some x) : val (xs.drop i) = x + 10000 * val (xs.drop (i + 1)) := by
  have hl := (List.getElem?_eq_some_iff.1 h).1
  rw [List.drop_eq_getElem_cons hl, (List.getElem?_eq_some_iff.1 h).2]
  rfl
theorem ByA.step {n : Nat} {xs cs : List Int} {d rest x q r : Int} {i : Nat} (h : ByA n xs d (i + 1) rest cs) (hi : i < n) (hx : xs[i]? = some x) (x0 : 0 ≤ x) (x1 : x < 10000) (he : q * d + r = rest * 10000 + x) (q0 : 0 ≤ q) (r0 : 0 ≤ r) (r1 : r < d) :
    ByA n xs d i r (cs.set i q) := by
  have hq : q < 10000 := by
    refine Decidable.by_contra fun hn => ?_
    have h5 : 10000 * d ≤ q * d := Int.mul_le_mul_of_nonneg_right (by omega) (by omega)
    have := h.r1
    omega
  have hl : i < (cs.set i q).length := by rw [List.length_set, h.len]; exact hi
  have hg : (cs.set i q)[i]? = some q := by rw [List.getElem?_set]; simp [h.len, hi]
  refine ⟨by rw [List.length_set]; exact h.len, ?_, h.dig.set q0 hq, r0, r1⟩
  rw [val_drop hx, val_drop hg]
  have hd : (cs.set i q).drop (i + 1) = cs.drop (i + 1) := List.drop_set_of_lt (by omega)
  rw [hd, ← h.eq]
  grind

/-- Times, the outer loop. -/
structure TimesA (N m : Nat) (xs : List Int) (b : Int) (i : Nat) (cs : List Int) : Prop where
  len : cs.length = N
  val_ : val cs = val (xs.take i) * b
  dig : Dig cs
  zero : ∀ (j : Nat) d, cs[j]? = some d → i + m ≤ j → d = 0
/-- Times, the inner loop. -/
structure TimesB (N m : Nat) (V x : Int) (ys : List Int) (i j : Nat) (carry : Int) (cs : List Int) : Prop where
  len : cs.length = N
  val_ : val cs = V + 10000 ^ i * (x * val (ys.take j)) - 10000 ^ (i + j) * carry
  dig : Dig cs
  zero : ∀ (k : Nat) d, cs[k]? = some d → i + m ≤ k → d = 0
  c0 : 0 ≤ carry
  c1 : carry < 10000
theorem TimesA.start (N m : Nat) (xs : List Int) (b : Int) : TimesA N m xs b 0 (List.replicate N 0) :=
  ⟨by simp, by rw [val_replicate]; simp [val], Dig.replicate N, fun j d hd _ => List.eq_of_mem_replicate (List.mem_of_getElem? hd)⟩
theorem TimesA.inner {N m : Nat} {xs : List Int} {b : Int} {i : Nat} {cs : List Int} (h : TimesA N m xs b i cs) (x : Int) (ys : List Int) : TimesB N m (val (xs.take i) * b) x ys i 0 0 cs :=
  ⟨h.len, by rw [h.val_]; simp [val], h.dig, h.zero, by omega, by omega⟩
theorem mul_lt_sq {x y : Int} (x0 : 0 ≤ x) (x1 : x < 10000) (y0 : 0 ≤ y) (y1 : y < 10000) : 0 ≤ x * y ∧ x * y ≤ 99980001 := by
  refine ⟨Int.mul_nonneg x0 y0, ?_⟩
  have h1 : x * y ≤ 9999 * y := Int.mul_le_mul_of_nonneg_right (by omega) y0
  omega
theorem TimesB.step {N m : Nat} {V x y z q r : Int} {ys cs : List Int} {i j : Nat} {carry : Int} (h : TimesB N m V x ys i j carry cs) (hj : j < m) (hy : ys[j]? = some y) (hz : cs[i + j]? = some z)
    (x0 : 0 ≤ x) (x1 : x < 10000) (y0 : 0 ≤ y) (y1 : y < 10000) (he : q * 10000 + r = x * y + carry + z) (q0 : 0 ≤ q) (r0 : 0 ≤ r) (r1 : r < 10000) :
    TimesB N m V x ys i (j + 1) q (cs.set (i + j) r) := by
  have hm := mul_lt_sq x0 x1 y0 y1
  have z1 := (h.dig.get hz).2
  have c1 := h.c1
  refine ⟨by rw [List.length_set]; exact h.len, ?_, h.dig.set r0 r1, ?_, q0, by omega⟩
  · have e1 : r - z = x * y + carry - q * 10000 := by omega
    rw [val_set _ hz, h.val_, val_take_succ hy, e1, show i + (j + 1) = i + j + 1 from rfl, Int.pow_succ, Int.pow_add]
    grind
  · intro k d hd hk
    rcases get_set hd with ⟨e, _⟩ | ⟨_, e⟩
    · omega
    · exact h.zero k d e hk
theorem TimesB.done {N m : Nat} {xs ys cs : List Int} {b : Nat} {i : Nat} {x carry z : Int} (h : TimesB N m (val (xs.take i) * b) x ys i m carry cs) (hx : xs[i]? = some x) (hy : val ys = b) (hm : ys.length = m) (hz : cs[i + m]? = some z) :
    TimesA N m xs b (i + 1) (cs.set (i + m) carry) := by
  have hz0 := h.zero _ _ hz (Nat.le_refl _)
  subst hz0
  refine ⟨by rw [List.length_set]; exact h.len, ?_, h.dig.set h.c0 h.c1, ?_⟩
  · have hv := h.val_
    rw [show ys.take m = ys from List.take_of_length_le (by omega), hy] at hv
    rw [val_set _ hz, hv, val_take_succ hx]
    grind
  · intro j d hd hj
    rcases get_set hd with ⟨e, _⟩ | ⟨_, e⟩
    · omega
    · exact h.zero j d e (by omega)

end Go.Proofs.YtkajibniibjblaaGreatDoor.P4

namespace Go.Proofs.YtkajibniibjblaaGreatDoor.P4
open Go.RowKit
set_option maxRecDepth 100000

theorem infoInt : (Tryz.prog.info? 3).map (fun i => (i.zero, i.size, i.bytes)) = some (some (.int .i64 0), 1, 8) := by kernel_rfl

/-- A list of digits in memory that need not be trimmed. -/
def Ds (w : World) (L : Nat) (A : Option Addr) (len c : Nat) (n : Nat) : Prop := len ≤ L ∧ ∃ xs, Rd w .i64 A len c xs ∧ Dig xs ∧ val xs = n
theorem Ms.ds {w : World} {L : Nat} {A : Option Addr} {len c n : Nat} (h : Ms w L A len c n) : Ds w L A len c n :=
  let ⟨hl, xs, hr, hn⟩ := h
  ⟨hl, xs, hr, hn.dig, hn.val_⟩
theorem Ds.below {w w' : World} {L : Nat} {A : Option Addr} {len c n : Nat} (h : Ds w L A len c n) (hb : Below w.heap.size w w') : Ds w' L A len c n :=
  let ⟨hl, xs, hr, hn⟩ := h
  ⟨hl, xs, hr.below hb, hn⟩
theorem Ds.mono {w : World} {L L' : Nat} {A : Option Addr} {len c n : Nat} (h : Ds w L A len c n) (hL : L ≤ L') : Ds w L' A len c n :=
  ⟨Nat.le_trans h.1 hL, h.2⟩
/-- A call returned the digits of n. -/
def RetD (w : World) (L n : Nat) : Ending → World → Prop := fun e w' => ∃ A len c, e = .returned (.slice A len c) ∧ Ds w' L A len c n ∧ Below w.heap.size w w'
/-- A call returned the digits of n, trimmed. -/
def RetT (w : World) (L n : Nat) : Ending → World → Prop := fun e w' => ∃ A len c, e = .returned (.slice A len c) ∧ Ms w' L A len c n ∧ Below w.heap.size w w'

theorem cut_any (w : World) (A : Option Addr) (n c : Nat) (xs : List Int) (h : Rd w .i64 A n c xs) :
    Calls Tryz.prog 158 #[.slice A n c] w fun e w' => e = .returned (.slice A (tl xs).length c) ∧ w = w' := by
  have hcap := h.cap
  have hmost := h.most
  go_enter Tryz.func158, Tryz.ntmps158
  go_wp2
  go_loop [3] (fun t => ∃ k : Nat, k ≤ n ∧ t = .int .i64 k ∧ tl (xs.take k) = tl xs) (fun t => (intOf t).toNat)
  case atStart => exact ⟨n, Nat.le_refl _, rfl, by rw [← h.len]; simp⟩
  case round =>
    obtain ⟨k, hk, rfl, ht⟩ := hrel
    have HT : Hid _ := ht
    clear ht
    by_cases h0 : 0 < k
    · obtain ⟨b, off, d, rfl, hd, hb, hc⟩ := h.get (j := k - 1) (by omega)
      by_cases hz : d = 0
      · subst hz
        have HD : Hid _ := hd
        clear hd
        go_wp2
        go_round
        case rel => exact ⟨k - 1, by omega, by go_num, (tl_take_pred h0 HD.out).trans HT.out⟩
        case measure => simp [intOf]; omega
      · have HL : Hid ((tl xs).length = k) := by
          rw [← HT.out, tl_take_ne h0 hd hz, List.length_take, h.len]; exact Nat.min_eq_left hk
        have HD : Hid _ := hd
        clear hd
        go_wp2
        go_ret
        exact ⟨by rw [HL.out]; rfl, rfl⟩
    · obtain rfl : k = 0 := by omega
      have HL : Hid ((tl xs).length = 0) := by rw [← HT.out]; rfl
      go_wp2
      go_ret
      exact ⟨by rw [HL.out]; rfl, rfl⟩

theorem cut_ms (w : World) (A : Option Addr) (n c : Nat) (xs : List Int) (h : Rd w .i64 A n c xs) {v : Nat} (hd : Dig xs) (hv : val xs = v) :
    Calls Tryz.prog 158 #[.slice A n c] w fun e w' => ∃ l, e = .returned (.slice A l c) ∧ Ms w n A l c v ∧ w = w' :=
  (cut_any w A n c xs h).mono fun _ _ ⟨he, hw⟩ => ⟨_, he, ⟨by rw [← h.len]; exact tl_length xs, _, h.tl_, Nm.of_dig hd hv⟩, hw⟩

theorem order_any (w : World) {La Lb : Nat} (A B : Option Addr) (n m c d : Nat) (a b : Nat) (ha : Ms w La A n c a) (hb : Ms w Lb B m d b) :
    Calls Tryz.prog 160 #[.slice A n c, .slice B m d] w fun e w' => ∃ r, e = .returned (.int .i64 r) ∧ CmpR r a b ∧ Below w.heap.size w w' := by
  obtain ⟨_, xs, hx, nx⟩ := ha
  obtain ⟨_, ys, hy, ny⟩ := hb
  have hcx := hx.cap
  have hmx := hx.most
  have hcy := hy.cap
  have hmy := hy.most
  by_cases hl : n = m
  · subst hl
    have hb0 : (((n : Int)) != (n : Int)) = false := by simp
    go_enter Tryz.func160, Tryz.ntmps160
    go_wp2
    go_loopw [5] (fun t wr => ∃ k : Nat, k ≤ n ∧ t = .int .i64 ((k : Int) - 1) ∧ xs.drop k = ys.drop k ∧ Below w.heap.size w wr) (fun t _ => (intOf t + 1).toNat)
    case atStart => exact ⟨n, Nat.le_refl _, rfl, by rw [List.drop_of_length_le (by rw [hx.len]; omega), List.drop_of_length_le (by rw [hy.len]; omega)], Below.refl _ _⟩
    case round =>
      obtain ⟨k, hk, rfl, hd, hbw⟩ := hrel
      have HD : Hid _ := hd
      clear hd
      by_cases h0 : 0 < k
      · obtain ⟨b1, o1, x, rfl, hxk, hb1, hc1⟩ := (hx.below hbw).get (j := k - 1) (by omega)
        obtain ⟨b2, o2, y, rfl, hyk, hb2, hc2⟩ := (hy.below hbw).get (j := k - 1) (by omega)
        have x0 := (nx.dig.get hxk).1
        have x1 := (nx.dig.get hxk).2
        have y0 := (ny.dig.get hyk).1
        have y1 := (ny.dig.get hyk).2
        have HX : Hid _ := hxk
        have HY : Hid _ := hyk
        clear hxk hyk
        have hkk : k - 1 + 1 = k := by omega
        by_cases heq : x = y
        · subst heq
          have HV : Hid (xs.drop (k - 1) = ys.drop (k - 1)) := by
            have e1 := List.getElem?_eq_some_iff.1 HX.out
            have e2 := List.getElem?_eq_some_iff.1 HY.out
            show xs.drop (k - 1) = ys.drop (k - 1)
            rw [List.drop_eq_getElem_cons e1.1, List.drop_eq_getElem_cons e2.1, e1.2, e2.2, hkk, HD.out]
          go_wp2_with (go_quiet (fail))
          go_roundw
          case rel => exact ⟨k - 1, by omega, by go_num, HV.out, (by first | exact hbw | exact below_drewN hbw _ | exact below_drewN (below_drewN hbw _) _)⟩
          case measure => simp [intOf]; omega
        · have HV : Hid (CmpR (x - y) a b) := by
            rcases Int.lt_or_gt_of_ne heq with hlt | hgt
            · have := val_lt_of_digit (k := k - 1) nx.dig ny.dig (by rw [hx.len, hy.len]) (by rw [hkk]; exact HD.out) HX.out HY.out hlt
              rw [nx.val_, ny.val_] at this
              exact ⟨⟨fun _ => by omega, fun _ => by omega⟩, ⟨fun h => absurd h (by omega), fun h => absurd h (by omega)⟩⟩
            · have := val_lt_of_digit (k := k - 1) ny.dig nx.dig (by rw [hx.len, hy.len]) (by rw [hkk]; exact HD.out.symm) HY.out HX.out hgt
              rw [nx.val_, ny.val_] at this
              exact ⟨⟨fun h => absurd h (by omega), fun h => absurd h (by omega)⟩, ⟨fun _ => by omega, fun _ => by omega⟩⟩
          go_wp2_with (go_quiet (fail))
          go_ret
          exact ⟨_, rfl, HV.out, (by first | exact hbw | exact below_drewN hbw _ | exact below_drewN (below_drewN hbw _) _)⟩
      · obtain rfl : k = 0 := by omega
        have HV : Hid (a = b) := by
          have := HD.out
          simp at this
          have h2 := nx.val_
          rw [this, ny.val_] at h2
          show a = b
          omega
        go_wp2
        go_ret
        exact ⟨0, rfl, ⟨⟨fun h => absurd h (by omega), fun h => absurd HV.out (by omega)⟩, ⟨fun h => absurd h (by omega), fun h => absurd HV.out (by omega)⟩⟩, hbw⟩
  · have hb0 : (((n : Int)) != (m : Int)) = true := by simp; omega
    have HV : Hid (CmpR ((n : Int) - m) a b) := by
      rcases Nat.lt_or_gt_of_ne hl with h | h
      · have := nx.lt_of_len ny (by rw [hx.len, hy.len]; exact h)
        exact ⟨⟨fun _ => this, fun _ => by omega⟩, ⟨fun h => absurd h (by omega), fun h => absurd this (by omega)⟩⟩
      · have := ny.lt_of_len nx (by rw [hx.len, hy.len]; exact h)
        exact ⟨⟨fun h => absurd h (by omega), fun h => absurd this (by omega)⟩, ⟨fun _ => this, fun _ => by omega⟩⟩
    go_enter Tryz.func160, Tryz.ntmps160
    go_wp2
    go_ret
    exact ⟨_, rfl, HV.out, Below.refl _ _⟩
end Go.Proofs.YtkajibniibjblaaGreatDoor.P4

namespace Go.Proofs.YtkajibniibjblaaGreatDoor.P4
open Go.RowKit
set_option maxRecDepth 100000

/-- once: quotient and remainder. -/
def OnceR (La : Nat) (a d : Nat) (w : World) (e : Ending) (w' : World) : Prop :=
  ∃ A l c, ∃ r : Nat, e = .returned (.tuple #[.slice A l c, .int .i64 (r : Int)]) ∧ Hid (r = a % d) ∧ Ms w' La A l c (a / d) ∧ Below w.heap.size w w'
theorem quo_rem {t d : Int} (h : 0 ≤ t) (hd : 0 < d) : t / d * d + t % d = t ∧ 0 ≤ t / d ∧ 0 ≤ t % d ∧ t % d < d := by
  refine ⟨?_, Int.ediv_nonneg h (by omega), Int.emod_nonneg _ (by omega), Int.emod_lt_of_pos _ hd⟩
  have := Int.mul_ediv_add_emod t d
  rw [Int.mul_comm]; exact this
theorem once_any (w : World) {La : Nat} (A : Option Addr) (n c : Nat) (a d : Nat) (ha : Ds w La A n c a) (hd : 0 < d) (hd1 : d ≤ 10000) (hL : La ≤ 1000000000000) :
    Calls Tryz.prog 187 #[.slice A n c, .int .i64 d] w (OnceR La a d w) := by
  obtain ⟨hla, xs, hx, dx, vx⟩ := ha
  have hnM : n ≤ 1000000000000 := by omega
  go_enter Tryz.func187, Tryz.ntmps187
  go_wp2_with (at_make; refine wpList_make _ rfl _ _ 100 rfl 3 .i64 8 Tryz.underlying100 infoInt n rfl rfl (by omega) (by omega) ?_; intro g w1 hown1 _ hbel1 hg1 _)
  have hw1 : Rd w1 .i64 A n c xs := hx.below hbel1
  go_loopw [7, 8] (fun rv t wr => ∃ (k : Nat) (rest : Int), k ≤ n ∧ t = .int .i64 ((k : Int) - 1) ∧ rv = .int .i64 rest ∧ (∃ cs, Own wr .i64 3 g cs ∧ ByA n xs d k rest cs) ∧ Below w.heap.size w wr) (fun _ t _ => (intOf t + 1).toNat)
  case atStart => exact ⟨n, 0, Nat.le_refl _, rfl, rfl, ⟨_, hown1, ByA.start hx.len (by omega)⟩, hbel1⟩
  case round =>
    clear hown1 hw1
    obtain ⟨k, rest, hk, rfl, rfl, ⟨cs, hown, hP⟩, hbw⟩ := hrel
    have r0 := hP.r0
    have r1 := hP.r1
    by_cases h0 : 0 < k
    · obtain ⟨i, rfl⟩ : ∃ i, k = i + 1 := ⟨k - 1, by omega⟩
      obtain ⟨b1, o1, x, rfl, hxk, hb1, hc1⟩ := (hx.below hbw).get (j := i) (by omega)
      have x0 := (dx.get hxk).1
      have x1 := (dx.get hxk).2
      have HX : Hid _ := hxk
      clear hxk
      have hl : i < cs.length := by rw [hP.len]; omega
      have hc2 := hown.cell (List.getElem?_eq_getElem hl)
      have hf2 := hown.frozen i
      generalize cs[i] = old at hc2
      obtain ⟨q1, q2, q3, q4⟩ := quo_rem (t := rest * 10000 + x) (d := (d : Int)) (by omega) (by omega)
      obtain ⟨q, hq⟩ : ∃ q, (rest * 10000 + x) / (d : Int) = q := ⟨_, rfl⟩
      obtain ⟨r, hr⟩ : ∃ r, (rest * 10000 + x) % (d : Int) = r := ⟨_, rfl⟩
      rw [hq, hr] at q1
      rw [hq] at q2
      rw [hr] at q3 q4
      have HP := hP.step (by omega) HX.out x0 x1 q1 q2 q3 q4
      have HO := hown.set_ i q
      clear q1 hown hP
      subst hq hr
      go_wp2
      go_roundw
      case rel => exact ⟨i, _, by omega, rfl, rfl, ⟨_, HO, HP⟩, hbw.setCell hg1 _⟩
      case measure => simp [intOf]
    · obtain rfl : k = 0 := by omega
      have he : Hid _ := hP.eq
      have hR := hown.rd hP.len (Nat.le_refl _) (by omega)
      have HV : Hid (val cs = ((a / d : Nat) : Int) ∧ rest = ((a % d : Nat) : Int)) := by
        have e := he.out
        simp only [List.drop_zero, vx] at e
        obtain ⟨r, rfl⟩ := Int.eq_ofNat_of_zero_le r0
        obtain ⟨v, hv⟩ := Int.eq_ofNat_of_zero_le (val_nonneg hP.dig)
        rw [hv] at e ⊢
        have e2 : v * d + r = a := by
          have : ((v * d + r : Nat) : Int) = a := by rw [Int.natCast_add, Int.natCast_mul]; exact e
          omega
        have hr : r < d := by omega
        subst e2
        refine ⟨?_, ?_⟩
        · rw [Nat.mul_comm, Nat.mul_add_div hd, Nat.div_eq_of_lt hr]; simp
        · rw [Nat.mul_comm, Nat.mul_add_mod, Nat.mod_eq_of_lt hr]
      have hd' := hP.dig
      go_wp2_with (go_at_call 158; refine (cut_ms _ _ _ _ _ hR hd' HV.out.1).mono ?_; rintro e w' ⟨l', rfl, hms, rfl⟩)
      go_ret2
      exact ⟨_, _, _, a % d, by rw [HV.out.2]; rfl, rfl, hms.mono hla, hbw⟩

theorem TimesB.step2 {N m : Nat} {V x y z q r : Int} {ys cs : List Int} {i j : Nat} {carry : Int} (h : TimesB N m V x ys i j carry cs) (hj : j < m) (hy : ys[j]? = some y) (hz : cs[i + j]? = some z)
    (he : q * 10000 + r = x * y + carry + z) (q0 : 0 ≤ q) (q1 : q < 10000) (r0 : 0 ≤ r) (r1 : r < 10000) :
    TimesB N m V x ys i (j + 1) q (cs.set (i + j) r) := by
  refine ⟨by rw [List.length_set]; exact h.len, ?_, h.dig.set r0 r1, ?_, q0, q1⟩
  · have e1 : r - z = x * y + carry - q * 10000 := by omega
    rw [val_set _ hz, h.val_, val_take_succ hy, e1, show i + (j + 1) = i + j + 1 from rfl, Int.pow_succ, Int.pow_add]
    grind
  · intro k d hd hk
    rcases get_set hd with ⟨e, _⟩ | ⟨_, e⟩
    · omega
    · exact h.zero k d e hk
/-- The second factor: digits, or one number up to the base. -/
def Fac (m : Nat) (ys : List Int) : Prop := Dig ys ∨ (m ≤ 1 ∧ ∀ y ∈ ys, 0 ≤ y ∧ y ≤ 10000)
theorem Fac.bound {m : Nat} {ys : List Int} (h : Fac m ys) {j : Nat} {x y ca z : Int} (hy : ys[j]? = some y) (hj : j < m) (x0 : 0 ≤ x) (x1 : x < 10000) (c1 : ca < 10000) (hc : j = 0 → ca = 0) (z1 : z < 10000) : 0 ≤ y ∧ y ≤ 10000 ∧ 0 ≤ x * y ∧ x * y ≤ 99990000 ∧ ca + z + x * y < 100000000 := by
  rcases h with h | ⟨h1, h2⟩
  · obtain ⟨y0, y1⟩ := h.get hy
    have := mul_lt_sq x0 x1 y0 y1
    omega
  · obtain ⟨y0, y1⟩ := h2 y (List.mem_of_getElem? hy)
    have := hc (by omega)
    have e1 : 0 ≤ x * y := Int.mul_nonneg x0 y0
    have e2 : x * y ≤ 9999 * y := Int.mul_le_mul_of_nonneg_right (by omega) y0
    omega

set_option maxHeartbeats 400000 in
theorem product_core (w : World) {La Lb : Nat} (A B : Option Addr) (n m c d : Nat) (a b : Nat) (ha : Ds w La A n c a) (hlb : m ≤ Lb) (ys : List Int) (hy : Rd w .i64 B m d ys) (dy : Hid (Fac m ys)) (vy : val ys = b) (hL : La + Lb ≤ 1000000000000) :
    Calls Tryz.prog 162 #[.slice A n c, .slice B m d] w (RetT w (La + Lb) (a * b)) := by
  obtain ⟨hla, xs, hx, dx, vx⟩ := ha
  have hnM : n + m ≤ 1000000000000 := by omega
  go_enter Tryz.func162, Tryz.ntmps162
  go_wp2_with (at_make; refine wpList_make _ rfl _ _ 100 rfl 3 .i64 8 Tryz.underlying100 infoInt (n + m) rfl rfl (by omega) (by omega) ?_; intro g w1 hown1 _ hbel1 hg1 _)
  go_loopw [6] (fun t wr => ∃ (i : Nat), i ≤ n ∧ t = .int .i64 (i : Int) ∧ (∃ cs, Own wr .i64 3 g cs ∧ TimesA (n + m) m xs b i cs) ∧ Below w.heap.size w wr) (fun t _ => n - (intOf t).toNat)
  case atStart => exact ⟨0, Nat.zero_le _, rfl, ⟨_, hown1, TimesA.start _ _ _ _⟩, hbel1⟩
  case round =>
    clear hown1
    obtain ⟨wo, rfl⟩ : ∃ wo : World, wo = wr := ⟨_, rfl⟩
    obtain ⟨i, hi, rfl, ⟨cs, hown, hP⟩, hbw⟩ := hrel
    by_cases hlt : i < n
    · obtain ⟨b1, o1, x, rfl, hxk, hb1, hc1⟩ := (hx.below hbw).get (j := i) hlt
      have x0 := (dx.get hxk).1
      have x1 := (dx.get hxk).2
      have HX : Hid _ := hxk
      clear hxk
      have hQ := hP.inner x ys
      clear hP
      go_wp2
      go_loopw [7, 8] (fun cv t wr => ∃ (j : Nat) (ca : Int), j ≤ m ∧ (j = 0 → ca = 0) ∧ t = .int .i64 (j : Int) ∧ cv = .int .i64 ca ∧ (∃ cs, Own wr .i64 3 g cs ∧ TimesB (n + m) m (val (xs.take i) * b) x ys i j ca cs) ∧ Below w.heap.size w wr) (fun _ t _ => m - (intOf t).toNat)
      case atStart => exact ⟨0, 0, Nat.zero_le _, fun _ => rfl, rfl, rfl, ⟨_, hown, hQ⟩, hbw⟩
      case round =>
        clear hown hQ hc1
        have hbo := hbw
        clear hbw
        obtain ⟨j, ca, hj, hj0, rfl, rfl, ⟨cs, hown, hP⟩, hbw⟩ := hrel
        have c0 := hP.c0
        have c1 := hP.c1
        have hl : i + j < cs.length := by rw [hP.len]; omega
        have HZ : Hid (cs[i + j]? = some cs[i + j]) := List.getElem?_eq_getElem hl
        generalize cs[i + j] = z at HZ
        have z0 := (hP.dig.get HZ.out).1
        have z1 := (hP.dig.get HZ.out).2
        have hc2 := hown.cell HZ.out
        have hf2 := hown.frozen (i + j)
        have hc1 : wr.cell? ⟨b1, o1 + i, none⟩ = some (.int .i64 x) := by
          obtain ⟨b1', o1', x', e1, hx', _, hc'⟩ := (hx.below hbw).get (j := i) hlt
          injection e1 with e1; injection e1 with e1 e2 e3
          subst e1 e2
          rw [HX.out] at hx'; injection hx' with hx'
          rw [hx']; exact hc'
        by_cases hjm : j < m
        · obtain ⟨b2, o2, y, rfl, hyk, hb2, hc3⟩ := (hy.below hbw).get (j := j) hjm
          obtain ⟨y0, y1, m0, m1, m2⟩ := dy.out.bound hyk hjm x0 x1 c1 hj0 z1
          have HY : Hid _ := hyk
          clear hyk
          obtain ⟨q1, q2, q3, q4⟩ := quo_rem (t := ca + z + x * y) (d := 10000) (by omega) (by omega)
          obtain ⟨q, hq⟩ : ∃ q, (ca + z + x * y) / 10000 = q := ⟨_, rfl⟩
          obtain ⟨r, hr⟩ : ∃ r, (ca + z + x * y) % 10000 = r := ⟨_, rfl⟩
          rw [hq, hr] at q1
          rw [hq] at q2
          rw [hr] at q3 q4
          have HP := hP.step2 hjm HY.out HZ.out (q := q) (r := r) (by rw [q1]; omega) q2 (by omega) q3 q4
          have HO := hown.set_ (i + j) r
          clear q1 hown hP hj0
          subst hq hr
          go_wp2_with (go_quiet (fail))
          go_roundw
          case rel => exact ⟨j + 1, _, by omega, fun h => absurd h (by omega), by go_num, rfl, ⟨_, HO, HP⟩, (by first | exact hbw.setCell hg1 _ | exact (below_drewN hbw _).setCell hg1 _)⟩
          case measure => simp [intOf] <;> omega
        · obtain rfl : j = m := by omega
          have HP := hP.done HX.out vy hy.len HZ.out
          have HO := hown.set_ (i + j) ca
          clear hP hown
          go_wp2
          go_roundw
          case rel => exact ⟨i + 1, by omega, by go_num, ⟨_, HO, HP⟩, hbw.setCell hg1 _⟩
          case measure => simp [intOf] <;> omega
    · obtain rfl : i = n := by omega
      have hR := hown.rd hP.len (Nat.le_refl _) (by omega)
      have hd' := hP.dig
      have HV : Hid (val cs = ((a * b : Nat) : Int)) := by
        have hv := hP.val_
        rw [show xs.take i = xs from List.take_of_length_le (by rw [hx.len]; omega), vx] at hv
        show _ = _
        rw [hv, Int.natCast_mul]
      clear hP
      go_wp2_with (go_at_call 158; refine (cut_ms _ _ _ _ _ hR hd' HV.out).mono ?_; rintro e w' ⟨l', rfl, hms, rfl⟩)
      go_ret
      exact ⟨_, _, _, rfl, hms.mono (by omega), hbw⟩
theorem product_any (w : World) {La Lb : Nat} (A B : Option Addr) (n m c d : Nat) (a b : Nat) (ha : Ds w La A n c a) (hb : Ds w Lb B m d b) (hL : La + Lb ≤ 1000000000000) :
    Calls Tryz.prog 162 #[.slice A n c, .slice B m d] w (RetT w (La + Lb) (a * b)) := by
  obtain ⟨hlb, ys, hy, dy, vy⟩ := hb
  exact product_core w A B n m c d a b ha hlb ys hy (Lib.hid (.inl dy)) vy hL
end Go.Proofs.YtkajibniibjblaaGreatDoor.P4

namespace Go.Proofs.YtkajibniibjblaaGreatDoor.P4
open Go.RowKit
set_option maxRecDepth 100000

theorem int_one (w : World) (x : Int) : Rd (w.alloc (.cells #[.int .i64 x] 3)) .i64 (some ⟨w.heap.size, 0, none⟩) 1 1 [x] := (OwnS.made w .i64 3 [x] (by simp)).rd
theorem val_snoc (cs : List Int) (x : Int) : val (cs ++ [x]) = val cs + 10000 ^ cs.length * x := by
  rw [val_append]; simp [val]

/-- difference, so far. -/
structure DifA (xs ys : List Int) (k : Nat) (bo : Int) (cs : List Int) : Prop where
  len : cs.length = k
  val_ : val cs = val (xs.take k) - val (ys.take k) + 10000 ^ k * bo
  dig : Dig cs
theorem DifA.start (xs ys : List Int) : DifA xs ys 0 0 [] := ⟨rfl, by simp [val], Dig.nil⟩
theorem DifA.step {xs ys cs : List Int} {k : Nat} {bo bo' x y x' : Int} (h : DifA xs ys k bo cs) (hx : xs[k]? = some x) (hy : val (ys.take (k + 1)) = val (ys.take k) + 10000 ^ k * y)
    (e : x' = x - bo - y + 10000 * bo') (h0 : 0 ≤ x') (h1 : x' < 10000) : DifA xs ys (k + 1) bo' (cs ++ [x']) := by
  refine ⟨by simp [h.len], ?_, Dig.append.2 ⟨h.dig, Dig.cons.2 ⟨⟨h0, h1⟩, Dig.nil⟩⟩⟩
  rw [val_snoc, h.len, h.val_, val_take_succ hx, hy, e, Int.pow_succ]
  grind
theorem DifA.done {xs ys cs : List Int} {n a b : Nat} {bo : Int} (h : DifA xs ys n bo cs) (hx : Nm xs a) (hn : xs.length = n) (hy : Nm ys b) (hm : ys.length ≤ n) (hle : b ≤ a) (hb : bo = 0 ∨ bo = 1) : val cs = ((a - b : Nat) : Int) := by
  have hv := h.val_
  rw [List.take_of_length_le (by omega), List.take_of_length_le hm, hx.val_, hy.val_] at hv
  have hlt := val_lt h.dig
  rw [h.len] at hlt
  rcases hb with rfl | rfl
  · omega
  · omega
theorem difference_any (w : World) {La Lb : Nat} (A B : Option Addr) (n m c d : Nat) (a b : Nat) (ha : Ms w La A n c a) (hb : Ms w Lb B m d b) (hle : b ≤ a) (hL : La ≤ 1000000000) :
    Calls Tryz.prog 161 #[.slice A n c, .slice B m d] w (RetT w La (a - b)) := by
  obtain ⟨hla, xs, hx, nx⟩ := ha
  obtain ⟨hlb, ys, hy, ny⟩ := hb
  have hnM : n ≤ 1000000000 := by omega
  have hmn : m ≤ n := by
    rcases Nat.lt_or_ge n m with h | h
    · have := nx.lt_of_len ny (by rw [hx.len, hy.len]; exact h)
      omega
    · exact h
  have ho0 := OwnS.nil w .i64 3 w.heap.size
  go_enter Tryz.func161, Tryz.ntmps161
  go_wp2
  go_loopw [5, 6, 7] (fun ov bv t wr => ∃ (k : Nat) (bo : Int) (A1 : Option Addr) (c1 : Nat) (cs : List Int), k ≤ n ∧ t = .int .i64 (k : Int) ∧ bv = .int .i64 bo ∧ 0 ≤ bo ∧ bo ≤ 1 ∧ ov = .slice A1 k c1 ∧ OwnS wr .i64 3 w.heap.size A1 k c1 cs ∧ DifA xs ys k bo cs ∧ Below w.heap.size w wr) (fun _ _ t _ => n - (intOf t).toNat)
  case atStart => exact ⟨0, 0, none, 0, [], Nat.zero_le _, rfl, rfl, by omega, by omega, rfl, ho0, DifA.start _ _, Below.refl _ _⟩
  case round =>
    clear ho0
    obtain ⟨k, bo, A1, c1, cs, hk, rfl, rfl, b0, b1, rfl, hown, hP, hbw⟩ := hrel
    by_cases hlt : k < n
    · obtain ⟨bx, ox, x, rfl, hxk, hb1, hc1⟩ := (hx.below hbw).get (j := k) hlt
      have x0 := (nx.dig.get hxk).1
      have x1 := (nx.dig.get hxk).2
      have HX : Hid _ := hxk
      clear hxk
      have hsb : w.heap.size ≤ wr.heap.size := hbw.size
      by_cases hkm : k < m
      · obtain ⟨by_, oy, y, rfl, hyk, hb2, hc2⟩ := (hy.below hbw).get (j := k) hkm
        have y0 := (ny.dig.get hyk).1
        have y1 := (ny.dig.get hyk).2
        have HY : Hid _ := val_take_succ hyk
        clear hyk
        by_cases hcmp : x - bo - y < 0
        · obtain ⟨v, hv⟩ : ∃ v, x - bo - y + 10000 = v := ⟨_, rfl⟩
          have HP := Lib.hid (hP.step (bo' := 1) (x' := v) HX.out HY.out (by omega) (by omega) (by omega))
          have hsrc := int_one wr v
          have hwa : Below wr.heap.size wr (wr.alloc (.cells #[.int .i64 v] 3)) := (Below.refl _ _).alloc (Nat.le_refl _) _
          have hown1 := hown.after hwa
          clear hP hown
          
          go_wp2_with (at_builtin; refine wpList_append rfl _ _ 100 rfl 3 .i64 8 Tryz.underlying100 infoInt w.heap.size A1 k c1 cs rfl hown1 (some ⟨wr.heap.size, 0, none⟩) 1 1 [v] rfl hsrc (by omega) (by omega) (by simp; omega) ?_; intro A2 c2 w2 hown2 hbel2 _)
          go_roundw
          case rel => exact ⟨k + 1, 1, A2, c2, _, by omega, by go_num, rfl, by omega, by omega, rfl, hown2, HP.out, (hbw.trans (hwa.mono hbw.size)).trans hbel2⟩
          case measure => simp [intOf] <;> omega
        · obtain ⟨v, hv⟩ : ∃ v, x - bo - y = v := ⟨_, rfl⟩
          have HP := Lib.hid (hP.step (bo' := 0) (x' := v) HX.out HY.out (by omega) (by omega) (by omega))
          have hsrc := int_one wr v
          have hwa : Below wr.heap.size wr (wr.alloc (.cells #[.int .i64 v] 3)) := (Below.refl _ _).alloc (Nat.le_refl _) _
          have hown1 := hown.after hwa
          clear hP hown
          go_wp2_with (at_builtin; refine wpList_append rfl _ _ 100 rfl 3 .i64 8 Tryz.underlying100 infoInt w.heap.size A1 k c1 cs rfl hown1 (some ⟨wr.heap.size, 0, none⟩) 1 1 [v] rfl hsrc (by omega) (by omega) (by simp; omega) ?_; intro A2 c2 w2 hown2 hbel2 _)
          go_roundw
          case rel => exact ⟨k + 1, 0, A2, c2, _, by omega, by go_num, rfl, by omega, by omega, rfl, hown2, HP.out, (hbw.trans (hwa.mono hbw.size)).trans hbel2⟩
          case measure => simp [intOf] <;> omega
      · have HY : Hid _ := val_take_late (ys := ys) (k := k) (by rw [hy.len]; omega)
        by_cases hcmp : x - bo < 0
        · obtain ⟨v, hv⟩ : ∃ v, x - bo + 10000 = v := ⟨_, rfl⟩
          have HP := Lib.hid (hP.step (bo' := 1) (x' := v) HX.out HY.out (by omega) (by omega) (by omega))
          have hsrc := int_one wr v
          have hwa : Below wr.heap.size wr (wr.alloc (.cells #[.int .i64 v] 3)) := (Below.refl _ _).alloc (Nat.le_refl _) _
          have hown1 := hown.after hwa
          clear hP hown
          go_wp2_with (at_builtin; refine wpList_append rfl _ _ 100 rfl 3 .i64 8 Tryz.underlying100 infoInt w.heap.size A1 k c1 cs rfl hown1 (some ⟨wr.heap.size, 0, none⟩) 1 1 [v] rfl hsrc (by omega) (by omega) (by simp; omega) ?_; intro A2 c2 w2 hown2 hbel2 _)
          go_roundw
          case rel => exact ⟨k + 1, 1, A2, c2, _, by omega, by go_num, rfl, by omega, by omega, rfl, hown2, HP.out, (hbw.trans (hwa.mono hbw.size)).trans hbel2⟩
          case measure => simp [intOf] <;> omega
        · obtain ⟨v, hv⟩ : ∃ v, x - bo = v := ⟨_, rfl⟩
          have HP := Lib.hid (hP.step (bo' := 0) (x' := v) HX.out HY.out (by omega) (by omega) (by omega))
          have hsrc := int_one wr v
          have hwa : Below wr.heap.size wr (wr.alloc (.cells #[.int .i64 v] 3)) := (Below.refl _ _).alloc (Nat.le_refl _) _
          have hown1 := hown.after hwa
          clear hP hown
          go_wp2_with (at_builtin; refine wpList_append rfl _ _ 100 rfl 3 .i64 8 Tryz.underlying100 infoInt w.heap.size A1 k c1 cs rfl hown1 (some ⟨wr.heap.size, 0, none⟩) 1 1 [v] rfl hsrc (by omega) (by omega) (by simp; omega) ?_; intro A2 c2 w2 hown2 hbel2 _)
          go_roundw
          case rel => exact ⟨k + 1, 0, A2, c2, _, by omega, by go_num, rfl, by omega, by omega, rfl, hown2, HP.out, (hbw.trans (hwa.mono hbw.size)).trans hbel2⟩
          case measure => simp [intOf] <;> omega
    · obtain rfl : k = n := by omega
      have hv := hP.done nx hx.len ny (by rw [hy.len]; exact hmn) hle (by omega)
      have hR := hown.rd
      have hd := hP.dig
      clear hP hown
      go_wp2_with (go_at_call 158; refine (cut_ms _ _ _ _ _ hR hd hv).mono ?_; rintro e w' ⟨l', rfl, hms, rfl⟩)
      go_ret
      exact ⟨_, _, _, rfl, hms.mono hla, hbw⟩

/-- sum, so far. -/
structure SumA (N : Nat) (xs ys : List Int) (k : Nat) (ca : Int) (cs : List Int) : Prop where
  len : cs.length = k
  val_ : val cs + 10000 ^ k * ca = val (xs.take k) + val (ys.take k)
  dig : Dig cs
  c0 : 0 ≤ ca
  c1 : ca ≤ 1
  top : k ≤ N + 1
  end_ : N < k → ca = 0
theorem SumA.start (N : Nat) (xs ys : List Int) : SumA N xs ys 0 0 [] := ⟨rfl, by simp [val], Dig.nil, by omega, by omega, by omega, fun _ => rfl⟩
theorem SumA.step {N : Nat} {xs ys cs : List Int} {k : Nat} {ca x y q r : Int} (h : SumA N xs ys k ca cs) (hx : val (xs.take (k + 1)) = val (xs.take k) + 10000 ^ k * x) (hy : val (ys.take (k + 1)) = val (ys.take k) + 10000 ^ k * y)
    (e : q * 10000 + r = ca + x + y) (r0 : 0 ≤ r) (r1 : r < 10000) (x0 : 0 ≤ x) (x1 : x < 10000) (y0 : 0 ≤ y) (y1 : y < 10000) (hk : k ≤ N) (hz : N ≤ k → x = 0 ∧ y = 0) : SumA N xs ys (k + 1) q (cs ++ [r]) := by
  have c0 := h.c0
  have c1 := h.c1
  refine ⟨by simp [h.len], ?_, Dig.append.2 ⟨h.dig, Dig.cons.2 ⟨⟨r0, r1⟩, Dig.nil⟩⟩, by omega, by omega, by omega, fun hn => by have := hz (by omega); omega⟩
  have hv := h.val_
  have hr : r = ca + x + y - q * 10000 := by omega
  rw [val_snoc, h.len, hx, hy, hr, Int.pow_succ]
  grind
theorem SumA.done {N : Nat} {xs ys cs : List Int} {k a b : Nat} (h : SumA N xs ys k 0 cs) (hx : Nm xs a) (hn : xs.length ≤ k) (hy : Nm ys b) (hm : ys.length ≤ k) : val cs = ((a + b : Nat) : Int) := by
  have hv := h.val_
  rw [List.take_of_length_le hn, List.take_of_length_le hm, hx.val_, hy.val_] at hv
  rw [Int.natCast_add]; omega
/-- SUMANY -/
theorem sum_any (w : World) {La Lb : Nat} (A B : Option Addr) (n m c d : Nat) (a b : Nat) (ha : Ms w La A n c a) (hb : Ms w Lb B m d b) (hL : La ≤ 1000000000) (hL' : Lb ≤ 1000000000) :
    Calls Tryz.prog 159 #[.slice A n c, .slice B m d] w (RetD w (max La Lb + 1) (a + b)) := by
  obtain ⟨hla, xs, hx, nx⟩ := ha
  obtain ⟨hlb, ys, hy, ny⟩ := hb
  obtain ⟨N, hN⟩ : ∃ N, max n m = N := ⟨_, rfl⟩
  have hN1 : n ≤ N := by omega
  have hN2 : m ≤ N := by omega
  have hN3 : N ≤ max La Lb := by omega
  have hN4 : n = N ∨ m = N := by omega
  have hNM : N ≤ 1000000000 := by omega
  have HN := Lib.hid hN
  clear hN
  have ho0 := OwnS.nil w .i64 3 w.heap.size
  go_enter Tryz.func159, Tryz.ntmps159
  go_wp2
  go_loopw [5, 6, 7] (fun ov cv t wr => ∃ (k : Nat) (ca : Int) (A1 : Option Addr) (c1 : Nat) (cs : List Int), t = .int .i64 (k : Int) ∧ cv = .int .i64 ca ∧ ov = .slice A1 k c1 ∧ OwnS wr .i64 3 w.heap.size A1 k c1 cs ∧ SumA N xs ys k ca cs ∧ Below w.heap.size w wr) (fun _ _ t _ => N + 2 - (intOf t).toNat)
  case atStart => exact ⟨0, 0, none, 0, [], rfl, rfl, rfl, ho0, SumA.start _ _ _, Below.refl _ _⟩
  case round =>
    clear ho0
    obtain ⟨k, ca, A1, c1, cs, rfl, rfl, rfl, hown, hP, hbw⟩ := hrel
    have c0 := hP.c0
    have ct := hP.c1
    have htop := hP.top
    have hend := hP.end_
    by_cases hlt : k < n
    · by_cases hkm : k < m
      · skip
        obtain ⟨bx, ox, x, rfl, hxk, hb1, hc1⟩ := (hx.below hbw).get (j := k) hlt
        have x0 := (nx.dig.get hxk).1
        have x1 := (nx.dig.get hxk).2
        have HX : Hid _ := val_take_succ hxk
        clear hxk
        obtain ⟨by_, oy, y, rfl, hyk, hb2, hc2⟩ := (hy.below hbw).get (j := k) hkm
        have y0 := (ny.dig.get hyk).1
        have y1 := (ny.dig.get hyk).2
        have HY : Hid _ := val_take_succ hyk
        clear hyk
        obtain ⟨q1, q2, q3, q4⟩ := quo_rem (t := ca + x + y) (d := 10000) (by omega) (by omega)
        obtain ⟨q, hq⟩ : ∃ q, (ca + x + y) / 10000 = q := ⟨_, rfl⟩
        obtain ⟨r, hr⟩ : ∃ r, (ca + x + y) % 10000 = r := ⟨_, rfl⟩
        rw [hq, hr] at q1
        rw [hq] at q2
        rw [hr] at q3 q4
        have HP := Lib.hid (hP.step (x := x) (y := y) (q := q) (r := r) HX.out HY.out (by omega) q3 q4 (by omega) (by omega) (by omega) (by omega) (by omega) (by omega))
        have hsrc := int_one wr r
        have hwa : Below wr.heap.size wr (wr.alloc (.cells #[.int .i64 r] 3)) := (Below.refl _ _).alloc (Nat.le_refl _) _
        have hown1 := hown.after hwa
        have hsb : w.heap.size ≤ wr.heap.size := hbw.size
        clear hP hown q1
        go_wp2_with (at_builtin; refine wpList_append rfl _ _ 100 rfl 3 .i64 8 Tryz.underlying100 infoInt w.heap.size A1 k c1 cs rfl hown1 (some ⟨wr.heap.size, 0, none⟩) 1 1 [r] rfl hsrc (by omega) (by omega) (by simp; omega) ?_; intro A2 c2 w2 hown2 hbel2 _)
        go_roundw
        case rel => exact ⟨k + 1, q, A2, c2, _, by go_num, by rw [hq], rfl, hown2, HP.out, (hbw.trans (hwa.mono hbw.size)).trans hbel2⟩
        case measure => simp [intOf] <;> omega
      · skip
        obtain ⟨bx, ox, x, rfl, hxk, hb1, hc1⟩ := (hx.below hbw).get (j := k) hlt
        have x0 := (nx.dig.get hxk).1
        have x1 := (nx.dig.get hxk).2
        have HX : Hid _ := val_take_succ hxk
        clear hxk
        have HY : Hid _ := val_take_late (ys := ys) (k := k) (by rw [hy.len]; omega)
        obtain ⟨q1, q2, q3, q4⟩ := quo_rem (t := ca + x) (d := 10000) (by omega) (by omega)
        obtain ⟨q, hq⟩ : ∃ q, (ca + x) / 10000 = q := ⟨_, rfl⟩
        obtain ⟨r, hr⟩ : ∃ r, (ca + x) % 10000 = r := ⟨_, rfl⟩
        rw [hq, hr] at q1
        rw [hq] at q2
        rw [hr] at q3 q4
        have HP := Lib.hid (hP.step (x := x) (y := 0) (q := q) (r := r) HX.out HY.out (by omega) q3 q4 (by omega) (by omega) (by omega) (by omega) (by omega) (by omega))
        have hsrc := int_one wr r
        have hwa : Below wr.heap.size wr (wr.alloc (.cells #[.int .i64 r] 3)) := (Below.refl _ _).alloc (Nat.le_refl _) _
        have hown1 := hown.after hwa
        have hsb : w.heap.size ≤ wr.heap.size := hbw.size
        clear hP hown q1
        go_wp2_with (at_builtin; refine wpList_append rfl _ _ 100 rfl 3 .i64 8 Tryz.underlying100 infoInt w.heap.size A1 k c1 cs rfl hown1 (some ⟨wr.heap.size, 0, none⟩) 1 1 [r] rfl hsrc (by omega) (by omega) (by simp; omega) ?_; intro A2 c2 w2 hown2 hbel2 _)
        go_roundw
        case rel => exact ⟨k + 1, q, A2, c2, _, by go_num, by rw [hq], rfl, hown2, HP.out, (hbw.trans (hwa.mono hbw.size)).trans hbel2⟩
        case measure => simp [intOf] <;> omega
    · by_cases hkm : k < m
      · skip
        have HX : Hid _ := val_take_late (ys := xs) (k := k) (by rw [hx.len]; omega)
        obtain ⟨by_, oy, y, rfl, hyk, hb2, hc2⟩ := (hy.below hbw).get (j := k) hkm
        have y0 := (ny.dig.get hyk).1
        have y1 := (ny.dig.get hyk).2
        have HY : Hid _ := val_take_succ hyk
        clear hyk
        obtain ⟨q1, q2, q3, q4⟩ := quo_rem (t := ca + y) (d := 10000) (by omega) (by omega)
        obtain ⟨q, hq⟩ : ∃ q, (ca + y) / 10000 = q := ⟨_, rfl⟩
        obtain ⟨r, hr⟩ : ∃ r, (ca + y) % 10000 = r := ⟨_, rfl⟩
        rw [hq, hr] at q1
        rw [hq] at q2
        rw [hr] at q3 q4
        have HP := Lib.hid (hP.step (x := 0) (y := y) (q := q) (r := r) HX.out HY.out (by omega) q3 q4 (by omega) (by omega) (by omega) (by omega) (by omega) (by omega))
        have hsrc := int_one wr r
        have hwa : Below wr.heap.size wr (wr.alloc (.cells #[.int .i64 r] 3)) := (Below.refl _ _).alloc (Nat.le_refl _) _
        have hown1 := hown.after hwa
        have hsb : w.heap.size ≤ wr.heap.size := hbw.size
        clear hP hown q1
        go_wp2_with (at_builtin; refine wpList_append rfl _ _ 100 rfl 3 .i64 8 Tryz.underlying100 infoInt w.heap.size A1 k c1 cs rfl hown1 (some ⟨wr.heap.size, 0, none⟩) 1 1 [r] rfl hsrc (by omega) (by omega) (by simp; omega) ?_; intro A2 c2 w2 hown2 hbel2 _)
        go_roundw
        case rel => exact ⟨k + 1, q, A2, c2, _, by go_num, by rw [hq], rfl, hown2, HP.out, (hbw.trans (hwa.mono hbw.size)).trans hbel2⟩
        case measure => simp [intOf] <;> omega
      · by_cases hca : 0 < ca
        · have hkN : k ≤ N := by
            rcases Nat.lt_or_ge N k with h | h
            · have := hend h; omega
            · exact h
          have HX : Hid _ := val_take_late (ys := xs) (k := k) (by rw [hx.len]; omega)
          have HY : Hid _ := val_take_late (ys := ys) (k := k) (by rw [hy.len]; omega)
          obtain ⟨q1, q2, q3, q4⟩ := quo_rem (t := ca) (d := 10000) (by omega) (by omega)
          obtain ⟨q, hq⟩ : ∃ q, (ca) / 10000 = q := ⟨_, rfl⟩
          obtain ⟨r, hr⟩ : ∃ r, (ca) % 10000 = r := ⟨_, rfl⟩
          rw [hq, hr] at q1
          rw [hq] at q2
          rw [hr] at q3 q4
          have HP := Lib.hid (hP.step (x := 0) (y := 0) (q := q) (r := r) HX.out HY.out (by omega) q3 q4 (by omega) (by omega) (by omega) (by omega) (by omega) (by omega))
          have hsrc := int_one wr r
          have hwa : Below wr.heap.size wr (wr.alloc (.cells #[.int .i64 r] 3)) := (Below.refl _ _).alloc (Nat.le_refl _) _
          have hown1 := hown.after hwa
          have hsb : w.heap.size ≤ wr.heap.size := hbw.size
          clear hP hown q1
          go_wp2_with (at_builtin; refine wpList_append rfl _ _ 100 rfl 3 .i64 8 Tryz.underlying100 infoInt w.heap.size A1 k c1 cs rfl hown1 (some ⟨wr.heap.size, 0, none⟩) 1 1 [r] rfl hsrc (by omega) (by omega) (by simp; omega) ?_; intro A2 c2 w2 hown2 hbel2 _)
          go_roundw
          case rel => exact ⟨k + 1, q, A2, c2, _, by go_num, by rw [hq], rfl, hown2, HP.out, (hbw.trans (hwa.mono hbw.size)).trans hbel2⟩
          case measure => simp [intOf] <;> omega
        · obtain rfl : ca = 0 := by omega
          have hv := hP.done nx (by rw [hx.len]; omega) ny (by rw [hy.len]; omega)
          have hR := hown.rd
          have hd := hP.dig
          clear hP hown hend
          go_wp2
          go_ret
          exact ⟨_, _, _, rfl, ⟨by omega, _, hR, hd, hv⟩, hbw⟩
end Go.Proofs.YtkajibniibjblaaGreatDoor.P4
