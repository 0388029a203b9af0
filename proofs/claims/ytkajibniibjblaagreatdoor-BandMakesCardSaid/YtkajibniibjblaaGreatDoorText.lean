/-
  Plain facts on decimal texts. No program in sight.
-/
import Derived.Test.YtkajibniibjblaaGreatDoorOverMath
import Derived.Lib.ItoaMem
import Derived.Lib.Repeat
namespace Go.Proofs.YtkajibniibjblaaGreatDoor

/-- The last w decimal digits of r. -/
def padn : Nat → Nat → List UInt8
  | 0, _ => []
  | w + 1, r => padn w (r / 10) ++ [UInt8.ofNat (48 + r % 10)]

theorem decDigits_big {u : Nat} (h : ¬ u < 10) : Lib.decDigits u = Lib.decDigits (u / 10) ++ [UInt8.ofNat (48 + u % 10)] := by rw [Lib.decDigits, dif_neg h]
theorem decDigits_split {q : Nat} (hq : 0 < q) (w : Nat) : ∀ r, r < 10 ^ w → Lib.decDigits (q * 10 ^ w + r) = Lib.decDigits q ++ padn w r := by
  induction w with
  | zero => intro r hr; simp at hr; subst hr; simp [padn]
  | succ w ih =>
    intro r hr
    have hp : 1 ≤ 10 ^ w := Nat.one_le_pow _ _ (by decide)
    have hpq : 1 ≤ q * 10 ^ w := Nat.mul_pos hq hp
    have e1 : q * 10 ^ (w + 1) + r = 10 * (q * 10 ^ w) + r := by rw [Nat.pow_succ]; grind
    rw [e1, decDigits_big (by omega)]
    have e2 : (10 * (q * 10 ^ w) + r) / 10 = q * 10 ^ w + r / 10 := by omega
    have e3 : (10 * (q * 10 ^ w) + r) % 10 = r % 10 := by omega
    rw [e2, e3, ih (r / 10) (by rw [Nat.pow_succ] at hr; omega), List.append_assoc]
    rfl
theorem padn_zero (w : Nat) : padn w 0 = List.replicate w 48 := by
  induction w with
  | zero => rfl
  | succ w ih => simp only [padn, Nat.zero_div, ih]; rw [List.replicate_succ']; rfl
/-- .. as the program writes them. -/
theorem padn_eq (w : Nat) : ∀ r, 0 < w → r < 10 ^ w → padn w r = List.replicate (w - Lib.nDigits r) 48 ++ Lib.decDigits r := by
  induction w with
  | zero => intro r h; omega
  | succ w ih =>
    intro r _ hr
    by_cases h10 : r < 10
    · have e : r / 10 = 0 := by omega
      simp only [padn]
      rw [e, padn_zero, Lib.nDigits_small h10, Lib.decDigits_one h10, Nat.mod_eq_of_lt h10]
      rfl
    · rw [Lib.nDigits_big h10, decDigits_big h10]
      have hw : 0 < w := by
        rcases Nat.eq_zero_or_pos w with h | h
        · subst h; simp at hr; omega
        · exact h
      simp only [padn]
      rw [ih (r / 10) hw (by rw [Nat.pow_succ] at hr; omega), List.append_assoc, Nat.add_sub_add_right]
theorem repeatL_one (c : Nat) (x : UInt8) : Lib.repeatL [x] c = List.replicate c x := by
  induction c with
  | zero => rfl
  | succ c ih => simp [Lib.repeatL, ih, List.replicate_succ]
theorem nDigits_mono {a b : Nat} (h : a ≤ b) : Lib.nDigits a ≤ Lib.nDigits b := by
  induction b using Nat.strongRecOn generalizing a with
  | _ b ih =>
    by_cases hb : b < 10
    · rw [Lib.nDigits_small hb, Lib.nDigits_small (by omega)]; exact Nat.le_refl _
    · rw [Lib.nDigits_big hb]
      by_cases ha : a < 10
      · rw [Lib.nDigits_small ha]; omega
      · rw [Lib.nDigits_big ha]
        have := ih (b / 10) (by omega) (a := a / 10) (by omega)
        omega
theorem nDigits_lt {u k : Nat} (h : u < 10 ^ k) (hk : 0 < k) : Lib.nDigits u ≤ k := by
  induction k generalizing u with
  | zero => omega
  | succ k ih =>
    by_cases hu : u < 10
    · rw [Lib.nDigits_small hu]; omega
    · rw [Lib.nDigits_big hu]
      have hk0 : 0 < k := by
        rcases Nat.eq_zero_or_pos k with h' | h'
        · subst h'; simp at h; omega
        · exact h'
      have := ih (u := u / 10) (by rw [Nat.pow_succ] at h; omega) hk0
      omega
theorem nDigits_split {q : Nat} (hq : 0 < q) (w r : Nat) (hr : r < 10 ^ w) : Lib.nDigits (q * 10 ^ w + r) = Lib.nDigits q + w := by
  have h := congrArg List.length (decDigits_split hq w r hr)
  rw [List.length_append, Lib.decDigits_length, Lib.decDigits_length] at h
  have hp : ∀ w r, (padn w r).length = w := by
    intro w
    induction w with
    | zero => intro r; rfl
    | succ w ih => intro r; simp [padn, ih]
  rw [hp] at h
  exact h
/-- The groups from place k on, as a number. -/
theorem Nm.drop_val {xs : List Int} {n : Nat} (h : Nm xs n) (k : Nat) : ∃ m : Nat, val (xs.drop k) = m ∧ (k < xs.length → 0 < m) := by
  obtain ⟨m, hm⟩ := Int.eq_ofNat_of_zero_le (val_nonneg (h.dig.drop k))
  refine ⟨m, hm, fun hk => ?_⟩
  obtain ⟨ys, d, rfl, hd⟩ := tl_last h.tr (by rintro rfl; simp at hk)
  have hdg := Dig.append.1 h.dig
  have h1 := (Dig.cons.1 hdg.2).1
  have hk2 : k ≤ ys.length := by simp at hk; omega
  rw [List.drop_append_of_le_length hk2, val_append] at hm
  simp only [val] at hm
  have h0 := val_nonneg (hdg.1.drop k)
  have hp := pow_pos (ys.drop k).length
  have h2 : (1000000000000000000 : Int) ^ (ys.drop k).length * 1 ≤ 1000000000000000000 ^ (ys.drop k).length * (d + 1000000000000000000 * 0) := Int.mul_le_mul_of_nonneg_left (by omega) (by omega)
  omega
theorem pow18 : (10 : Nat) ^ 18 = 1000000000000000000 := by decide
theorem Nm.digits {xs : List Int} {n k : Nat} {d : Int} (h : Nm xs n) (hl : xs.length = k + 1) (hd : xs[k]? = some d) : Lib.nDigits n = 18 * k + Lib.nDigits d.toNat := by
  obtain ⟨v, lo, hv, v0, v1, hn, lo0, lo1⟩ := h.top hl
  rw [hd] at hv
  injection hv with hv
  subst hv
  obtain ⟨d, rfl⟩ := Int.eq_ofNat_of_zero_le (Int.le_of_lt v0)
  obtain ⟨lo, rfl⟩ := Int.eq_ofNat_of_zero_le lo0
  have e : (10 : Nat) ^ (18 * k) = 1000000000000000000 ^ k := by rw [Nat.pow_mul, pow18]
  have hn2 : n = d * 10 ^ (18 * k) + lo := by
    rw [e]
    have : (n : Int) = ((d * 1000000000000000000 ^ k + lo : Nat) : Int) := by
      rw [hn, Int.natCast_add, Int.natCast_mul, Int.natCast_pow]; grind
    omega
  have hlo : lo < 10 ^ (18 * k) := by
    rw [e]
    have : (lo : Int) < ((1000000000000000000 ^ k : Nat) : Int) := by rw [Int.natCast_pow]; exact lo1
    omega
  rw [hn2, nDigits_split (by omega) _ _ hlo, Int.toNat_natCast]
  omega
/-- What the closure of Told writes. -/
def pad (w n : Nat) : List UInt8 := List.replicate (w - Lib.nDigits n) 48 ++ Lib.decDigits n
/-- What Told has written when k groups are left. -/
def ToldI (xs : List Int) (sgn : List UInt8) (k wd : Nat) (l : List UInt8) : Prop :=
  (k = xs.length ∧ wd = 1 ∧ l = sgn) ∨ (k < xs.length ∧ wd = 18 ∧ ∃ m : Nat, val (xs.drop k) = m ∧ l = sgn ++ Lib.decDigits m)
theorem ToldI.wd {xs : List Int} {sgn l : List UInt8} {k wd : Nat} (h : ToldI xs sgn k wd l) : wd ≤ 18 := by
  rcases h with h | h <;> omega
theorem ToldI.step {xs : List Int} {n : Nat} {sgn l : List UInt8} {i wd : Nat} {x : Int} (h : ToldI xs sgn (i + 1) wd l) (nx : Nm xs n) (hx : xs[i]? = some x) : ToldI xs sgn i 18 (l ++ pad wd x.toNat) := by
  have hi := (List.getElem?_eq_some_iff.1 hx).1
  have hd := nx.dig.get hx
  obtain ⟨x, rfl⟩ := Int.eq_ofNat_of_zero_le hd.1
  rw [Int.toNat_natCast]
  rcases h with ⟨h1, rfl, rfl⟩ | ⟨h1, rfl, m, hm, rfl⟩
  · refine .inr ⟨hi, rfl, x, ?_, ?_⟩
    · rw [val_drop hx, List.drop_of_length_le (by omega)]; simp [val]
    · have := Lib.nDigits_pos x
      simp [pad, show 1 - Lib.nDigits x = 0 by omega]
  · refine .inr ⟨hi, rfl, m * 10 ^ 18 + x, ?_, ?_⟩
    · rw [val_drop hx, hm, pow18]; omega
    · have hm0 : 0 < m := by
        obtain ⟨m', hm', h0⟩ := nx.drop_val (i + 1)
        have := h0 h1
        omega
      have hx18 : x < 10 ^ 18 := by rw [pow18]; omega
      rw [decDigits_split hm0 18 x hx18, padn_eq 18 x (by omega) hx18, List.append_assoc]
      rfl
theorem ToldI.done {xs : List Int} {n : Nat} {sgn l : List UInt8} {wd : Nat} (h : ToldI xs sgn 0 wd l) (nx : Nm xs n) (h0 : 0 < xs.length) : l = sgn ++ Lib.decDigits n := by
  rcases h with ⟨h1, _⟩ | ⟨_, _, m, hm, rfl⟩
  · omega
  · rw [List.drop_zero, nx.val_] at hm
    have : m = n := by omega
    rw [this]
theorem ToldI.len {xs : List Int} {n : Nat} {sgn l : List UInt8} {k wd : Nat} (h : ToldI xs sgn k wd l) (nx : Nm xs n) (hs : sgn.length ≤ 1) (hn : Lib.nDigits n ≤ 600) : l.length ≤ 601 := by
  rcases h with ⟨_, _, rfl⟩ | ⟨h1, _, m, hm, rfl⟩
  · omega
  · have hle : m ≤ n := by
      have e := val_split xs k
      rw [nx.val_, hm] at e
      have h0 := val_nonneg (nx.dig.take k)
      have hp := pow_pos (xs.take k).length
      have h2 : 1 * (m : Int) ≤ 1000000000000000000 ^ (xs.take k).length * m := Int.mul_le_mul_of_nonneg_right (by omega) (by omega)
      omega
    have := nDigits_mono hle
    rw [List.length_append, Lib.decDigits_length]
    omega

end Go.Proofs.YtkajibniibjblaaGreatDoor
