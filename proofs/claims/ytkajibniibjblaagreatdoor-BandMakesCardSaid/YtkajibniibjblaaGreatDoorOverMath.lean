/-
  The plain arithmetic of the long division of whole.Mass.Over. No program in sight.
-/
import Derived.Test.YtkajibniibjblaaGreatDoorDigits
namespace Go.Proofs.YtkajibniibjblaaGreatDoor

theorem pow_pos (k : Nat) : (0 : Int) < 1000000000000000000 ^ k := Int.pow_pos (by omega)

/-- The highest group of a number of n groups, n not 0. -/
theorem Nm.top {xs : List Int} {b n : Nat} (h : Nm xs b) (hn : xs.length = n + 1) : ∃ v lo : Int, xs[n]? = some v ∧ 0 < v ∧ v < 1000000000000000000 ∧ (b : Int) = lo + 1000000000000000000 ^ n * v ∧ 0 ≤ lo ∧ lo < 1000000000000000000 ^ n := by
  obtain ⟨ys, d, rfl, hd⟩ := tl_last h.tr (by rintro rfl; simp at hn)
  have hl : ys.length = n := by simpa using hn
  have hdg := Dig.append.1 h.dig
  have h1 := (Dig.cons.1 hdg.2).1
  have h0 := val_nonneg hdg.1
  have h2 := val_lt hdg.1
  rw [hl] at h2
  refine ⟨d, val ys, by rw [← hl]; simp, by omega, h1.2, ?_, h0, h2⟩
  rw [← h.val_, val_append, hl]
  simp [val]

/-- The scaled divisor has as many groups as the divisor. -/
theorem scale_lt {b n : Nat} {v lo F : Int} (hb : (b : Int) = lo + 1000000000000000000 ^ n * v) (hlo : lo < 1000000000000000000 ^ n) (hF : F = 1000000000000000000 / (v + 1)) (v0 : 0 < v) (v1 : v < 1000000000000000000) :
    0 < F ∧ F < 1000000000000000000 ∧ (b : Int) * F < 1000000000000000000 ^ (n + 1) := by
  have hF0 : 0 < F := by
    rw [hF]
    have : (1 : Int) ≤ 1000000000000000000 / (v + 1) := by rw [Int.le_ediv_iff_mul_le (by omega)]; omega
    omega
  have hm : F * (v + 1) ≤ 1000000000000000000 := by rw [hF]; exact Int.ediv_mul_le _ (by omega)
  have hF1 : F < 1000000000000000000 := by
    have h2 : F * 2 ≤ F * (v + 1) := Int.mul_le_mul_of_nonneg_left (by omega) (by omega)
    omega
  refine ⟨hF0, hF1, ?_⟩
  have hb2 : (b : Int) < 1000000000000000000 ^ n * (v + 1) := by rw [Int.mul_add]; omega
  have h3 : (b : Int) * F < 1000000000000000000 ^ n * (v + 1) * F := Int.mul_lt_mul_of_pos_right hb2 hF0
  have h4 : (1000000000000000000 : Int) ^ n * (F * (v + 1)) ≤ 1000000000000000000 ^ n * 1000000000000000000 := Int.mul_le_mul_of_nonneg_left hm (Int.le_of_lt (pow_pos n))
  rw [Int.pow_succ]
  grind

/-- The estimate: from the two highest groups. T: the dividend's part from place i + n on. -/
theorem guess_up {R D dt g r T : Int} {n i : Nat} (hT : R < (T + 1) * 1000000000000000000 ^ (n + i)) (hD : 1000000000000000000 ^ n * dt ≤ D) (hg : g * dt + r = T) (r1 : r < dt) (g0 : 0 ≤ g) : R < (g + 1) * (D * 1000000000000000000 ^ i) := by
  have h1 : T + 1 ≤ (g + 1) * dt := by grind
  have h2 : (T + 1) * 1000000000000000000 ^ (n + i) ≤ (g + 1) * dt * 1000000000000000000 ^ (n + i) := Int.mul_le_mul_of_nonneg_right h1 (Int.le_of_lt (pow_pos _))
  have h3 : (g + 1) * 1000000000000000000 ^ i * (1000000000000000000 ^ n * dt) ≤ (g + 1) * 1000000000000000000 ^ i * D := Int.mul_le_mul_of_nonneg_left hD (Int.mul_nonneg (by omega) (Int.le_of_lt (pow_pos _)))
  rw [Int.pow_add] at h2 hT
  grind

/-- The state of the division: k places are left. -/
structure OverI (N : Nat) (S D : Int) (k : Nat) (R : Int) (qs : List Int) : Prop where
  len : qs.length = N
  eq : S = val qs * D + R
  dig : Dig qs
  zero : ∀ (j : Nat) d, qs[j]? = some d → j < k → d = 0
  r0 : 0 ≤ R
  r1 : R < D * 1000000000000000000 ^ k
theorem OverI.start {N : Nat} {S D : Int} (s0 : 0 ≤ S) (s1 : S < D * 1000000000000000000 ^ N) : OverI N S D N S (List.replicate N 0) :=
  ⟨by simp, by rw [val_replicate]; omega, Dig.replicate N, fun j d hd _ => List.eq_of_mem_replicate (List.mem_of_getElem? hd), s0, s1⟩
theorem OverI.skip {N : Nat} {S D : Int} {i : Nat} {R : Int} {qs : List Int} (h : OverI N S D (i + 1) R qs) (hR : R < D * 1000000000000000000 ^ i) : OverI N S D i R qs :=
  ⟨h.len, h.eq, h.dig, fun j d hd hj => h.zero j d hd (by omega), h.r0, hR⟩
theorem OverI.step {N : Nat} {S D : Int} {i : Nat} {R q old : Int} {qs : List Int} (h : OverI N S D (i + 1) R qs) (ho : qs[i]? = some old) (q0 : 0 ≤ q) (q1 : q < 1000000000000000000)
    (hlo : q * (D * 1000000000000000000 ^ i) ≤ R) (hup : R < (q + 1) * (D * 1000000000000000000 ^ i)) : OverI N S D i (R - q * (D * 1000000000000000000 ^ i)) (qs.set i q) := by
  have hz := h.zero i old ho (by omega)
  subst hz
  refine ⟨by rw [List.length_set]; exact h.len, ?_, h.dig.set q0 q1, ?_, by omega, by grind⟩
  · rw [val_set _ ho, h.eq]; grind
  · intro j d hd hj
    rcases get_set hd with ⟨e, _⟩ | ⟨_, e⟩
    · omega
    · exact h.zero j d e (by omega)
theorem OverI.nine {N : Nat} {S D : Int} {i : Nat} {R : Int} {qs : List Int} (h : OverI N S D (i + 1) R qs) : R < (999999999999999999 + 1) * (D * 1000000000000000000 ^ i) := by
  have := h.r1
  rw [Int.pow_succ] at this
  grind
theorem OverI.skip2 {N : Nat} {S : Int} {i lr l b F : Nat} {R : Nat} {qs ys rs : List Int} (h : OverI N S ((b : Int) * F) (i + 1) R qs) (nr : Nm rs R) (hr : rs.length = lr) (ny : Nm ys b) (hy : ys.length = l) (hl : 0 < l) (F0 : 0 < F) (hsk : lr < i + l) :
    OverI N S ((b : Int) * F) i R qs := by
  refine h.skip ?_
  have e1 := val_lt nr.dig
  rw [nr.val_, hr] at e1
  have e2 := ny.low (by rintro rfl; simp at hy; omega)
  rw [hy] at e2
  have e3 : (b : Int) * 1 ≤ b * F := Int.mul_le_mul_of_nonneg_left (by omega) (by omega)
  have e4 : (1000000000000000000 : Int) ^ (l - 1) * 1000000000000000000 ^ i ≤ (b : Int) * F * 1000000000000000000 ^ i := Int.mul_le_mul_of_nonneg_right (by omega) (Int.le_of_lt (pow_pos i))
  rw [← Int.pow_add] at e4
  have e5 : (1000000000000000000 : Int) ^ lr ≤ 1000000000000000000 ^ (l - 1 + i) := pow_le (by omega)
  omega
theorem OverI.start2 {n l N a b F : Nat} {xs ys : List Int} (nx : Nm xs a) (hx : xs.length = n) (ny : Nm ys b) (hy : ys.length = l) (hl : 0 < l) (F0 : 0 < F) (hN : n + 1 = N + l) :
    OverI N ((a : Int) * F) ((b : Int) * F) N ((a * F : Nat) : Int) (List.replicate N 0) := by
  rw [Int.natCast_mul]
  refine OverI.start (Int.mul_nonneg (by omega) (by omega)) ?_
  have e1 := val_lt nx.dig
  rw [nx.val_, hx] at e1
  have e2 := ny.low (by rintro rfl; simp at hy; omega)
  rw [hy] at e2
  have e3 : (1000000000000000000 : Int) ^ n = 1000000000000000000 ^ (l - 1) * 1000000000000000000 ^ N := by rw [← Int.pow_add]; congr 1; omega
  have e4 : (1000000000000000000 : Int) ^ (l - 1) * 1000000000000000000 ^ N ≤ (b : Int) * 1000000000000000000 ^ N := Int.mul_le_mul_of_nonneg_right e2 (Int.le_of_lt (pow_pos N))
  have e5 : (a : Int) * F < (b : Int) * 1000000000000000000 ^ N * F := Int.mul_lt_mul_of_pos_right (by omega) (by omega)
  grind
theorem OverI.bound {N l b F i : Nat} {S R : Int} {qs : List Int} (h : OverI N S ((b : Int) * F) (i + 1) R qs) (hD : (b : Int) * F < 1000000000000000000 ^ (l - 1 + 1)) : R < 1000000000000000000 ^ (l - 1 + i + 2) := by
  have e1 := h.r1
  have e3 : (b : Int) * F * 1000000000000000000 ^ (i + 1) ≤ 1000000000000000000 ^ (l - 1 + 1) * 1000000000000000000 ^ (i + 1) := Int.mul_le_mul_of_nonneg_right (by omega) (Int.le_of_lt (pow_pos _))
  rw [← Int.pow_add, show l - 1 + 1 + (i + 1) = l - 1 + i + 2 by omega] at e3
  omega
/-- What the division comes to. -/
theorem OverI.done {N a b : Nat} {F R : Int} {qs : List Int} (h : OverI N ((a : Int) * F) ((b : Int) * F) 0 R qs) (hF : 0 < F) (hb : 0 < b) : val qs = ((a / b : Nat) : Int) ∧ ∃ m : Nat, R = ((m * F.toNat : Nat) : Int) ∧ m = a % b := by
  obtain ⟨v, hv⟩ := Int.eq_ofNat_of_zero_le (val_nonneg h.dig)
  obtain ⟨f, rfl⟩ := Int.eq_ofNat_of_zero_le (Int.le_of_lt hF)
  obtain ⟨R, rfl⟩ := Int.eq_ofNat_of_zero_le h.r0
  have e := h.eq
  have r1 := h.r1
  rw [hv] at e ⊢
  simp only [Int.pow_zero, Int.mul_one] at r1
  have e2 : a * f = v * (b * f) + R := by
    have : ((a * f : Nat) : Int) = ((v * (b * f) + R : Nat) : Int) := by simpa using e
    omega
  have r2 : R < b * f := by
    have : (R : Int) < ((b * f : Nat) : Int) := by simpa using r1
    omega
  have hf : 0 < f := by omega
  have hva : v * b ≤ a := by
    refine Nat.le_of_mul_le_mul_right ?_ hf
    rw [Nat.mul_assoc]; omega
  have hR : R = (a - v * b) * f := by rw [Nat.sub_mul, e2, Nat.mul_assoc]; omega
  have hlt : a - v * b < b := by
    refine Nat.lt_of_mul_lt_mul_right (a := f) ?_
    rw [← hR]; exact r2
  have ha : a = b * v + (a - v * b) := by rw [Nat.mul_comm b v]; omega
  refine ⟨?_, a - v * b, by rw [hR, Int.toNat_natCast], ?_⟩
  · rw [ha, Nat.mul_add_div hb, Nat.div_eq_of_lt hlt]; simp
  · conv => rhs; rw [ha, Nat.mul_add_mod, Nat.mod_eq_of_lt hlt]
theorem cast_DB (b F i : Nat) : ((b * F * 1000000000000000000 ^ i : Nat) : Int) = (b : Int) * F * 1000000000000000000 ^ i := by simp
theorem OverI.step2 {N b F i R q : Nat} {S old : Int} {qs : List Int} (h : OverI N S ((b : Int) * F) (i + 1) (R : Int) qs) (ho : qs[i]? = some old) (q1 : q < 1000000000000000000)
    (hlo : q * (b * F * 1000000000000000000 ^ i) ≤ R) (hup : R < (q + 1) * (b * F * 1000000000000000000 ^ i)) : OverI N S ((b : Int) * F) i ((R - q * (b * F * 1000000000000000000 ^ i) : Nat) : Int) (qs.set i (q : Int)) := by
  have e := cast_DB b F i
  have h1 : (q : Int) * ((b : Int) * F * 1000000000000000000 ^ i) ≤ (R : Int) := by
    rw [← e, ← Int.natCast_mul]; omega
  have h2 : (R : Int) < ((q : Int) + 1) * ((b : Int) * F * 1000000000000000000 ^ i) := by
    rw [← e, show ((q : Int) + 1) = ((q + 1 : Nat) : Int) by omega, ← Int.natCast_mul]; omega
  have h3 := h.step ho (Int.natCast_nonneg q) (by omega) h1 h2
  have h4 : ((R - q * (b * F * 1000000000000000000 ^ i) : Nat) : Int) = (R : Int) - (q : Int) * ((b : Int) * F * 1000000000000000000 ^ i) := by
    rw [Int.natCast_sub hlo, Int.natCast_mul, e]
  rw [h4]
  exact h3
theorem guess_nat {R q b F i : Nat} (h : (R : Int) < ((q : Int) + 1) * ((b : Int) * F * 1000000000000000000 ^ i)) : R < (q + 1) * (b * F * 1000000000000000000 ^ i) := by
  rw [← cast_DB, show ((q : Int) + 1) = ((q + 1 : Nat) : Int) by omega, ← Int.natCast_mul] at h
  omega
theorem tl_append_of {xs ys : List Int} (ht : tl ys = ys) (hne : ys ≠ []) : tl (xs ++ ys) = xs ++ ys := by
  induction xs with
  | nil => exact ht
  | cons x xs ih =>
    simp only [List.cons_append, tl, ih]
    rw [if_neg]
    rintro ⟨_, h⟩
    exact hne (List.append_eq_nil_iff.1 h).2
/-- A number that is not 0, moved by i groups. -/
theorem Nm.shift {ds : List Int} {D : Nat} (h : Nm ds D) (h0 : 0 < D) (i : Nat) : Nm (List.replicate i 0 ++ ds) (D * 1000000000000000000 ^ i) := by
  have hne : ds ≠ [] := fun e => by have := h.zero_iff.2 e; omega
  refine ⟨Dig.append.2 ⟨Dig.replicate i, h.dig⟩, tl_append_of h.tr hne, ?_⟩
  rw [val_append, val_replicate, h.val_, List.length_replicate, Int.natCast_mul, Int.natCast_pow]
  simp [Int.mul_comm]
theorem Nm.len_le {xs ys : List Int} {a b : Nat} (hx : Nm xs a) (hy : Nm ys b) (h : a ≤ b) : xs.length ≤ ys.length := by
  rcases Nat.lt_or_ge ys.length xs.length with h1 | h1
  · have := hy.lt_of_len hx h1; omega
  · exact h1
theorem pow_lt_of {i j : Nat} (h : (1000000000000000000 : Int) ^ i < 1000000000000000000 ^ j) : i < j := by
  rcases Nat.lt_or_ge i j with h1 | h1
  · exact h1
  · have := pow_le h1; omega
/-- The two highest groups of a dividend that has just n or n + 1 groups from place i on. -/
theorem top_two {rs : List Int} {R m i : Nat} {sn : Int} (h : Nm rs R) (hR : (R : Int) < 1000000000000000000 ^ (m + i + 2)) (hs : rs[i + m]? = some sn) :
    (rs.length = i + m + 1 ∧ (R : Int) < (0 * 1000000000000000000 + sn + 1) * 1000000000000000000 ^ (m + i)) ∨
    (rs.length = i + m + 2 ∧ ∃ tp, rs[i + (m + 1)]? = some tp ∧ 0 ≤ tp ∧ tp < 1000000000000000000 ∧ (R : Int) < (tp * 1000000000000000000 + sn + 1) * 1000000000000000000 ^ (m + i)) := by
  have hl := (List.getElem?_eq_some_iff.1 hs).1
  have hne : rs ≠ [] := by rintro rfl; simp at hs
  have hlow := h.low hne
  have hle : rs.length - 1 < m + i + 2 := pow_lt_of (Int.lt_of_le_of_lt hlow hR)
  have hv := val_split rs (i + m)
  have hlt := val_lt (h.dig.take (i + m))
  have hlen : (rs.take (i + m)).length = m + i := by rw [List.length_take]; omega
  rw [hlen] at hv hlt
  rw [h.val_, val_drop hs] at hv
  rcases Nat.lt_or_ge (i + m + 1) rs.length with h1 | h1
  · have hl2 : i + (m + 1) < rs.length := by omega
    have hg : rs[i + (m + 1)]? = some rs[i + (m + 1)] := List.getElem?_eq_getElem hl2
    generalize rs[i + (m + 1)] = tp at hg
    have hd := h.dig.get hg
    refine .inr ⟨by omega, tp, hg, hd.1, hd.2, ?_⟩
    have e : rs.drop (i + m + 1 + 1) = [] := List.drop_of_length_le (by omega)
    rw [val_drop (show rs[i + m + 1]? = some tp from hg), e] at hv
    simp only [val] at hv
    rw [hv]
    grind
  · refine .inl ⟨by omega, ?_⟩
    have e : rs.drop (i + m + 1) = [] := List.drop_of_length_le (by omega)
    rw [e] at hv
    simp only [val] at hv
    rw [hv]
    grind

end Go.Proofs.YtkajibniibjblaaGreatDoor
