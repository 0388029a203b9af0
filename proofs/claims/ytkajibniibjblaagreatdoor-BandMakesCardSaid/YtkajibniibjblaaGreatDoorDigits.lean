/-
  Plain facts on lists of digits: sums, differences, products. No program in sight.
-/
import Derived.Test.YtkajibniibjblaaGreatDoorWords
namespace Go.Proofs.YtkajibniibjblaaGreatDoor

theorem val_set {cs : List Int} {j : Nat} {x : Int} (y : Int) (h : cs[j]? = some x) : val (cs.set j y) = val cs + 1000000000000000000 ^ j * (y - x) := by
  induction cs generalizing j with
  | nil => simp at h
  | cons c cs ih =>
    cases j with
    | zero => simp at h; subst h; simp [val]; omega
    | succ j =>
      simp only [List.getElem?_cons_succ] at h
      simp only [List.set_cons_succ, val, ih h, Int.pow_succ]
      grind
theorem val_take_succ {ys : List Int} {k : Nat} {y : Int} (h : ys[k]? = some y) : val (ys.take (k + 1)) = val (ys.take k) + 1000000000000000000 ^ k * y := by
  have hk : k < ys.length := (List.getElem?_eq_some_iff.1 h).1
  rw [List.take_add_one, h, val_append, List.length_take, Nat.min_eq_left (by omega)]
  simp [val]
theorem val_replicate (n : Nat) : val (List.replicate n 0) = 0 := by
  induction n with
  | zero => rfl
  | succ n ih => simp [List.replicate_succ, val, ih]

/-- Plus, the first loop. -/
structure PlusA (N : Nat) (a : Int) (ys : List Int) (k : Nat) (cs : List Int) : Prop where
  len : cs.length = N + 1
  val_ : val cs = a + val (ys.take k)
  lo : ∀ (j : Nat) d, cs[j]? = some d → 0 ≤ d
  hi : ∀ (j : Nat) d, cs[j]? = some d → d ≤ 1999999999999999998
  late : ∀ (j : Nat) d, cs[j]? = some d → k ≤ j → d < 1000000000000000000
  top : ∀ d, cs[N]? = some d → d = 0
theorem PlusA.start {N n : Nat} {a : Nat} {xs ys : List Int} (hx : Nm xs a) (hn : xs.length = n) (hN : n ≤ N) : PlusA N a ys 0 (xs ++ (List.replicate (N + 1) 0).drop n) := by
  have hd : (List.replicate (N + 1) (0 : Int)).drop n = List.replicate (N + 1 - n) 0 := by simp
  rw [hd]
  have hg : ∀ (j : Nat) d, (xs ++ List.replicate (N + 1 - n) 0)[j]? = some d → (j < n ∧ xs[j]? = some d) ∨ (n ≤ j ∧ d = 0) := by
    intro j d h
    rw [List.getElem?_append] at h
    split at h
    · exact .inl ⟨by omega, h⟩
    · rw [List.getElem?_replicate] at h
      split at h
      · exact .inr ⟨by omega, by injection h with h; exact h.symm⟩
      · cases h
  refine ⟨by simp; omega, ?_, ?_, ?_, ?_, ?_⟩
  · rw [val_append, val_replicate, hx.val_]; simp [val]
  · intro j d h
    rcases hg j d h with ⟨_, h⟩ | ⟨_, h⟩
    · exact (hx.dig.get h).1
    · omega
  · intro j d h
    rcases hg j d h with ⟨_, h⟩ | ⟨_, h⟩
    · have := (hx.dig.get h).2; omega
    · omega
  · intro j d h _
    rcases hg j d h with ⟨_, h⟩ | ⟨_, h⟩
    · exact (hx.dig.get h).2
    · omega
  · intro d h
    rcases hg N d h with ⟨h1, _⟩ | ⟨_, h⟩
    · omega
    · exact h
theorem get_set {cs : List Int} {k j : Nat} {x d : Int} (h : (cs.set k x)[j]? = some d) : (j = k ∧ d = x) ∨ (j ≠ k ∧ cs[j]? = some d) := by
  rw [List.getElem?_set] at h
  split at h
  · rename_i e
    split at h
    · exact .inl ⟨e.symm, by injection h with h; exact h.symm⟩
    · cases h
  · exact .inr ⟨fun e => by omega, h⟩
theorem get_set2 {cs : List Int} {k l j : Nat} {x y d : Int} (h : ((cs.set k x).set l y)[j]? = some d) : (j = l ∧ d = y) ∨ (j = k ∧ d = x) ∨ (j ≠ k ∧ j ≠ l ∧ cs[j]? = some d) := by
  rcases get_set h with h | ⟨h1, h⟩
  · exact .inl h
  · rcases get_set h with h | ⟨h2, h⟩
    · exact .inr (.inl h)
    · exact .inr (.inr ⟨h2, h1, h⟩)
theorem PlusA.step {N : Nat} {a : Int} {ys cs : List Int} {k : Nat} {x y : Int} (h : PlusA N a ys k cs) (hy : Dig ys) (hk : k < N) (hx : cs[k]? = some x) (hyk : ys[k]? = some y) : PlusA N a ys (k + 1) (cs.set k (x + y)) := by
  have h1 := h.lo k x hx
  have h2 := h.late k x hx (Nat.le_refl _)
  have h3 := hy.get hyk
  refine ⟨by rw [List.length_set]; exact h.len, ?_, ?_, ?_, ?_, ?_⟩
  · rw [val_set _ hx, val_take_succ hyk, h.val_]; grind
  · intro j d hd
    rcases get_set hd with ⟨_, e⟩ | ⟨_, e⟩
    · omega
    · exact h.lo j d e
  · intro j d hd
    rcases get_set hd with ⟨_, e⟩ | ⟨_, e⟩
    · omega
    · exact h.hi j d e
  · intro j d hd hj
    rcases get_set hd with ⟨_, e⟩ | ⟨_, e⟩
    · omega
    · exact h.late j d e (by omega)
  · intro d hd
    rcases get_set hd with ⟨_, e⟩ | ⟨_, e⟩
    · omega
    · exact h.top d e

/-- Plus, the second loop. -/
structure PlusB (N : Nat) (v : Int) (k : Nat) (cs : List Int) : Prop where
  len : cs.length = N + 1
  val_ : val cs = v
  lo : ∀ (j : Nat) d, cs[j]? = some d → 0 ≤ d
  early : ∀ (j : Nat) d, cs[j]? = some d → j < k → d < 1000000000000000000
  hi : ∀ (j : Nat) d, cs[j]? = some d → d ≤ 1999999999999999999
  late : ∀ (j : Nat) d, cs[j]? = some d → k < j → d ≤ 1999999999999999998
  top : ∀ d, cs[N]? = some d → d ≤ 1 ∧ (k < N → d = 0)
theorem PlusA.next {N : Nat} {a : Int} {ys cs : List Int} {k : Nat} (h : PlusA N a ys k cs) : PlusB N (a + val (ys.take k)) 0 cs :=
  ⟨h.len, h.val_, h.lo, fun j d _ hj => absurd hj (by omega), fun j d hd => by have := h.hi j d hd; omega, fun j d hd _ => h.hi j d hd, fun d hd => by have := h.top d hd; omega⟩
theorem PlusB.small {N : Nat} {v : Int} {cs : List Int} {k : Nat} {x : Int} (h : PlusB N v k cs) (hx : cs[k]? = some x) (hs : x < 1000000000000000000) (hk : k < N) : PlusB N v (k + 1) cs :=
  ⟨h.len, h.val_, h.lo, fun j d hd hj => by
    by_cases e : j = k
    · subst e; rw [hx] at hd; injection hd with hd; omega
    · exact h.early j d hd (by omega), h.hi, fun j d hd hj => h.late j d hd (by omega), fun d hd => by have := h.top d hd; omega⟩
theorem PlusB.great {N : Nat} {v : Int} {cs : List Int} {k : Nat} {x z : Int} (h : PlusB N v k cs) (hx : cs[k]? = some x) (hz : cs[k + 1]? = some z) (hs : 1000000000000000000 ≤ x) (hk : k < N) :
    PlusB N v (k + 1) ((cs.set k (x - 1000000000000000000)).set (k + 1) (z + 1)) := by
  have h0 := h.hi k x hx
  have h1 := h.lo _ z hz
  have h2 := h.late _ z hz (by omega)
  have hz' : (cs.set k (x - 1000000000000000000))[k + 1]? = some z := by rw [List.getElem?_set, if_neg (by omega)]; exact hz
  refine ⟨by rw [List.length_set, List.length_set]; exact h.len, ?_, ?_, ?_, ?_, ?_, ?_⟩
  · rw [val_set _ hz', val_set _ hx, h.val_, Int.pow_succ]; grind
  · intro j d hd
    rcases get_set2 hd with ⟨_, e⟩ | ⟨_, e⟩ | ⟨_, _, e⟩
    · omega
    · omega
    · exact h.lo j d e
  · intro j d hd hj
    rcases get_set2 hd with ⟨_, e⟩ | ⟨_, e⟩ | ⟨_, _, e⟩
    · omega
    · omega
    · exact h.early j d e (by omega)
  · intro j d hd
    rcases get_set2 hd with ⟨_, e⟩ | ⟨_, e⟩ | ⟨_, _, e⟩
    · omega
    · omega
    · exact h.hi j d e
  · intro j d hd hj
    rcases get_set2 hd with ⟨_, e⟩ | ⟨_, e⟩ | ⟨_, _, e⟩
    · omega
    · omega
    · exact h.late j d e (by omega)
  · intro d hd
    rcases get_set2 hd with ⟨e0, e⟩ | ⟨_, e⟩ | ⟨_, _, e⟩
    · subst e0
      have := h.top z hz
      omega
    · omega
    · have := h.top d e
      omega
theorem PlusB.done {N : Nat} {v : Int} {cs : List Int} (h : PlusB N v N cs) : Dig cs := by
  intro d hd
  obtain ⟨j, hj⟩ := List.getElem?_of_mem hd
  refine ⟨h.lo j d hj, ?_⟩
  by_cases e : j = N
  · subst e; have := h.top d hj; omega
  · have hl := (List.getElem?_eq_some_iff.1 hj).1
    rw [h.len] at hl
    exact h.early j d hj (by omega)

theorem Dig.set {cs : List Int} (h : Dig cs) {k : Nat} {x : Int} (h0 : 0 ≤ x) (h1 : x < 1000000000000000000) : Dig (cs.set k x) := by
  intro d hd
  obtain ⟨j, hj⟩ := List.getElem?_of_mem hd
  rcases get_set hj with ⟨_, rfl⟩ | ⟨_, e⟩
  · exact ⟨h0, h1⟩
  · exact h.get e

/-- Minus. -/
structure MinA (n : Nat) (a : Int) (ys : List Int) (k : Nat) (bo : Int) (cs : List Int) : Prop where
  len : cs.length = n
  val_ : val cs = a - val (ys.take k) + 1000000000000000000 ^ k * bo
  dig : Dig cs
theorem MinA.start {n : Nat} {a : Nat} {xs ys : List Int} (hx : Nm xs a) (hn : xs.length = n) : MinA n a ys 0 0 xs :=
  ⟨hn, by rw [hx.val_]; simp [val], hx.dig⟩
theorem MinA.step {n : Nat} {a bo bo' y x x' : Int} {ys cs : List Int} {k : Nat} (h : MinA n a ys k bo cs) (hx : cs[k]? = some x) (hy : val (ys.take (k + 1)) = val (ys.take k) + 1000000000000000000 ^ k * y)
    (e : x' = x - bo - y + 1000000000000000000 * bo') (h0 : 0 ≤ x') (h1 : x' < 1000000000000000000) : MinA n a ys (k + 1) bo' (cs.set k x') := by
  refine ⟨by rw [List.length_set]; exact h.len, ?_, h.dig.set h0 h1⟩
  rw [val_set _ hx, hy, h.val_, e, Int.pow_succ]
  grind
theorem val_take_late {ys : List Int} {k : Nat} (h : ys.length ≤ k) : val (ys.take (k + 1)) = val (ys.take k) + 1000000000000000000 ^ k * 0 := by
  rw [List.take_of_length_le (by omega), List.take_of_length_le h]; omega
theorem MinA.done {n : Nat} {a b : Nat} {bo : Int} {ys cs : List Int} (h : MinA n a ys n bo cs) (hy : Nm ys b) (hm : ys.length ≤ n) (hle : b ≤ a) (hb : bo = 0 ∨ bo = 1) : val cs = ((a - b : Nat) : Int) := by
  have hv := h.val_
  rw [List.take_of_length_le hm, hy.val_] at hv
  have hlt := val_lt h.dig
  rw [h.len] at hlt
  rcases hb with rfl | rfl
  · omega
  · omega

/-- by: what has been divided so far, from the highest group down. -/
structure ByA (n : Nat) (xs : List Int) (d : Int) (k : Nat) (rest : Int) (cs : List Int) : Prop where
  len : cs.length = n
  eq : val (cs.drop k) * d + rest = val (xs.drop k)
  dig : Dig cs
  r0 : 0 ≤ rest
  r1 : rest < d
theorem Dig.replicate (n : Nat) : Dig (List.replicate n 0) := by
  intro d hd
  have := List.eq_of_mem_replicate hd
  omega
theorem ByA.start {n : Nat} {xs : List Int} {d : Int} (hn : xs.length = n) (hd : 0 < d) : ByA n xs d n 0 (List.replicate n 0) :=
  ⟨by simp, by rw [List.drop_of_length_le (by simp), List.drop_of_length_le (by omega)]; simp [val], Dig.replicate n, by omega, hd⟩
theorem val_drop {xs : List Int} {i : Nat} {x : Int} (h : xs[i]? = some x) : val (xs.drop i) = x + 1000000000000000000 * val (xs.drop (i + 1)) := by
  have hl := (List.getElem?_eq_some_iff.1 h).1
  rw [List.drop_eq_getElem_cons hl, (List.getElem?_eq_some_iff.1 h).2]
  rfl
theorem ByA.step {n : Nat} {xs cs : List Int} {d rest x q r : Int} {i : Nat} (h : ByA n xs d (i + 1) rest cs) (hi : i < n) (hx : xs[i]? = some x) (x0 : 0 ≤ x) (x1 : x < 1000000000000000000) (he : q * d + r = rest * 1000000000000000000 + x) (q0 : 0 ≤ q) (r0 : 0 ≤ r) (r1 : r < d) :
    ByA n xs d i r (cs.set i q) := by
  have hq : q < 1000000000000000000 := by
    refine Decidable.by_contra fun hn => ?_
    have h5 : 1000000000000000000 * d ≤ q * d := Int.mul_le_mul_of_nonneg_right (by omega) (by omega)
    have := h.r1
    omega
  have hl : i < (cs.set i q).length := by rw [List.length_set, h.len]; exact hi
  have hg : (cs.set i q)[i]? = some q := by rw [List.getElem?_set]; simp [h.len, hi]
  refine ⟨by rw [List.length_set]; exact h.len, ?_, h.dig.set q0 hq, r0, r1⟩
  rw [val_drop hx, val_drop hg]
  have hd : (cs.set i q).drop (i + 1) = cs.drop (i + 1) := List.drop_set_of_lt (by omega)
  rw [hd, ← h.eq]
  grind

/-- Times, the outer loop. -/
structure TimesA (N m : Nat) (xs : List Int) (b : Int) (i : Nat) (cs : List Int) : Prop where
  len : cs.length = N
  val_ : val cs = val (xs.take i) * b
  dig : Dig cs
  zero : ∀ (j : Nat) d, cs[j]? = some d → i + m ≤ j → d = 0
/-- Times, the inner loop. -/
structure TimesB (N m : Nat) (V x : Int) (ys : List Int) (i j : Nat) (carry : Int) (cs : List Int) : Prop where
  len : cs.length = N
  val_ : val cs = V + 1000000000000000000 ^ i * (x * val (ys.take j)) - 1000000000000000000 ^ (i + j) * carry
  dig : Dig cs
  zero : ∀ (k : Nat) d, cs[k]? = some d → i + m ≤ k → d = 0
  c0 : 0 ≤ carry
  c1 : carry < 1000000000000000000
theorem TimesA.start (N m : Nat) (xs : List Int) (b : Int) : TimesA N m xs b 0 (List.replicate N 0) :=
  ⟨by simp, by rw [val_replicate]; simp [val], Dig.replicate N, fun j d hd _ => List.eq_of_mem_replicate (List.mem_of_getElem? hd)⟩
theorem TimesA.inner {N m : Nat} {xs : List Int} {b : Int} {i : Nat} {cs : List Int} (h : TimesA N m xs b i cs) (x : Int) (ys : List Int) : TimesB N m (val (xs.take i) * b) x ys i 0 0 cs :=
  ⟨h.len, by rw [h.val_]; simp [val], h.dig, h.zero, by omega, by omega⟩
theorem mul_lt_sq {x y : Int} (x0 : 0 ≤ x) (x1 : x < 1000000000000000000) (y0 : 0 ≤ y) (y1 : y < 1000000000000000000) : 0 ≤ x * y ∧ x * y ≤ 999999999999999998000000000000000001 := by
  refine ⟨Int.mul_nonneg x0 y0, ?_⟩
  have h1 : x * y ≤ 999999999999999999 * y := Int.mul_le_mul_of_nonneg_right (by omega) y0
  omega
theorem TimesB.step {N m : Nat} {V x y z q r : Int} {ys cs : List Int} {i j : Nat} {carry : Int} (h : TimesB N m V x ys i j carry cs) (hj : j < m) (hy : ys[j]? = some y) (hz : cs[i + j]? = some z)
    (x0 : 0 ≤ x) (x1 : x < 1000000000000000000) (y0 : 0 ≤ y) (y1 : y < 1000000000000000000) (he : q * 1000000000000000000 + r = x * y + carry + z) (q0 : 0 ≤ q) (r0 : 0 ≤ r) (r1 : r < 1000000000000000000) :
    TimesB N m V x ys i (j + 1) q (cs.set (i + j) r) := by
  have hm := mul_lt_sq x0 x1 y0 y1
  have z1 := (h.dig.get hz).2
  have c1 := h.c1
  refine ⟨by rw [List.length_set]; exact h.len, ?_, h.dig.set r0 r1, ?_, q0, by omega⟩
  · have e1 : r - z = x * y + carry - q * 1000000000000000000 := by omega
    rw [val_set _ hz, h.val_, val_take_succ hy, e1, show i + (j + 1) = i + j + 1 from rfl, Int.pow_succ, Int.pow_add]
    grind
  · intro k d hd hk
    rcases get_set hd with ⟨e, _⟩ | ⟨_, e⟩
    · omega
    · exact h.zero k d e hk
theorem TimesB.done {N m : Nat} {xs ys cs : List Int} {b : Nat} {i : Nat} {x carry z : Int} (h : TimesB N m (val (xs.take i) * b) x ys i m carry cs) (hx : xs[i]? = some x) (hy : Nm ys b) (hm : ys.length = m) (hz : cs[i + m]? = some z) :
    TimesA N m xs b (i + 1) (cs.set (i + m) carry) := by
  have hz0 := h.zero _ _ hz (Nat.le_refl _)
  subst hz0
  refine ⟨by rw [List.length_set]; exact h.len, ?_, h.dig.set h.c0 h.c1, ?_⟩
  · have hv := h.val_
    rw [show ys.take m = ys from List.take_of_length_le (by omega), hy.val_] at hv
    rw [val_set _ hz, hv, val_take_succ hx]
    grind
  · intro j d hd hj
    rcases get_set hd with ⟨e, _⟩ | ⟨_, e⟩
    · omega
    · exact h.zero j d e (by omega)

end Go.Proofs.YtkajibniibjblaaGreatDoor
