/-
  band: the plain laws of bands, and of what their operations are. No program in sight.
-/
import Derived.Test.YtkajibniibjblaaGreatDoorWords
namespace Go.Proofs.YtkajibniibjblaaGreatDoor
/-- A band is valid. -/
def okB (lo hi : Int) : Bool := decide (-1000000000000000000 ≤ lo ∧ lo ≤ hi ∧ hi ≤ 1000000000000000000)
def chkB (lo hi : Int) : Int := if okB lo hi then 0 else 30

/-- A band and an error number. -/
structure BR where
  lo : Int
  hi : Int
  e : Int
def BR.bad (e : Int) : BR := ⟨0, 0, e⟩
def fitB (lo hi : Int) : BR := if okB lo hi then ⟨lo, hi, 0⟩ else .bad 6
/-- The result of a function of two bands, if they are valid. -/
def twoB (a b c d : Int) (r : BR) : BR := if okB a b && okB c d then r else .bad 30
def oneB (a b : Int) (r : BR) : BR := if okB a b then r else .bad 30

/-- The greatest integer that is at most n / d; the least that is at least n / d. -/
def flo (n d : Int) : Int := if d < 0 then (-n) / (-d) else n / d
def cei (n d : Int) : Int := -(flo (-n) d)

theorem le_flo {n d k : Int} (hd : 0 < d) : k ≤ flo n d ↔ k * d ≤ n := by
  rw [flo, if_neg (by omega)]
  exact Int.le_ediv_iff_mul_le hd
theorem le_flo' {n d k : Int} (hd : d < 0) : k ≤ flo n d ↔ n ≤ k * d := by
  rw [flo, if_pos hd, Int.le_ediv_iff_mul_le (by omega), Int.mul_neg]
  omega
theorem cei_le {n d k : Int} (hd : 0 < d) : cei n d ≤ k ↔ n ≤ k * d := by
  have h := le_flo (n := -n) (k := -k) hd
  rw [Int.neg_mul] at h
  unfold cei
  omega
theorem cei_le' {n d k : Int} (hd : d < 0) : cei n d ≤ k ↔ k * d ≤ n := by
  have h := le_flo' (n := -n) (k := -k) hd
  rw [Int.neg_mul] at h
  unfold cei
  omega
theorem flo_le_cei (n d : Int) (hd : d ≠ 0) : flo n d ≤ cei n d := by
  by_cases h : 0 < d
  · have h1 := (le_flo (n := n) (k := flo n d) h).1 (Int.le_refl _)
    have h2 := (cei_le (n := n) (k := cei n d) h).1 (Int.le_refl _)
    have := Int.le_of_mul_le_mul_right (Int.le_trans h1 h2) h
    exact this
  · have h' : d < 0 := by omega
    have h1 := (le_flo' (n := n) (k := flo n d) h').1 (Int.le_refl _)
    have h2 := (cei_le' (n := n) (k := cei n d) h').1 (Int.le_refl _)
    have h3 := Int.le_trans h2 h1
    by_cases hc : flo n d ≤ cei n d
    · exact hc
    · have : flo n d * d < cei n d * d := Int.mul_lt_mul_of_neg_right (by omega) h'
      omega
theorem cei_le_flo (n d : Int) (hd : d ≠ 0) : cei n d ≤ flo n d + 1 := by
  by_cases h : 0 < d
  · rw [cei_le h]
    have h1 : ¬ (flo n d + 1 ≤ flo n d) := by omega
    rw [le_flo h] at h1
    omega
  · have h' : d < 0 := by omega
    rw [cei_le' h']
    have h1 : ¬ (flo n d + 1 ≤ flo n d) := by omega
    rw [le_flo' h'] at h1
    omega

/-- What over returns: both ends; far beyond all limits if they are not known. -/
def overV (a b d : Int) : Int × Int :=
  if a.natAbs * b.natAbs / d.natAbs < 2305843009213693952 then (flo (a * b) d, cei (a * b) d)
  else if ((a < 0) ≠ (b < 0)) ≠ (d < 0) then (-2305843009213693952, -2305843009213693952) else (2305843009213693952, 2305843009213693952)

theorem flo_nat (N D : Nat) : flo N D = ((N / D : Nat) : Int) := by
  rw [flo, if_neg (by omega)]; rfl
theorem cei_nat (N D : Nat) (hD : 0 < D) : cei N D = ((N / D : Nat) : Int) + (if 0 < N % D then 1 else 0) := by
  have h1 := Nat.div_add_mod N D
  have hk : ∀ k : Int, cei N D ≤ k ↔ ((N / D : Nat) : Int) + (if 0 < N % D then 1 else 0) ≤ k := by
    intro k
    rw [cei_le (by omega)]
    have h3 := Nat.mod_lt N hD
    generalize N / D = q at *
    generalize N % D = r at *
    subst h1
    push_cast
    split
    · constructor
      · intro h
        have : (D : Int) * q < D * k := by rw [Int.mul_comm (D : Int) k]; omega
        have := Int.lt_of_mul_lt_mul_left this (by omega)
        omega
      · intro h
        have : ((q : Int) + 1) * D ≤ k * D := Int.mul_le_mul_of_nonneg_right (by omega) (by omega)
        rw [Int.add_mul, Int.mul_comm (q : Int)] at this
        omega
    · have h0 : r = 0 := by omega
      subst h0
      constructor
      · intro h
        have : (D : Int) * q ≤ D * k := by rw [Int.mul_comm (D : Int) k]; omega
        have := Int.le_of_mul_le_mul_left this (by omega)
        omega
      · intro h
        have : (q : Int) * D ≤ k * D := Int.mul_le_mul_of_nonneg_right (by omega) (by omega)
        rw [Int.mul_comm (q : Int)] at this
        omega
  have := (hk (cei N D)).1 (Int.le_refl _)
  have := (hk (((N / D : Nat) : Int) + (if 0 < N % D then 1 else 0))).2 (Int.le_refl _)
  omega
theorem flo_negd (n d : Int) (hd : d ≠ 0) : flo n (-d) = flo (-n) d := by
  unfold flo
  by_cases h : d < 0
  · rw [if_neg (by omega), if_pos h, Int.neg_neg]
  · rw [if_pos (by omega), if_neg h, Int.neg_neg]
theorem cei_negd (n d : Int) (hd : d ≠ 0) : cei n (-d) = cei (-n) d := by
  unfold cei
  rw [flo_negd _ _ hd]
theorem cei_neg (n d : Int) : cei (-n) d = -(flo n d) := by unfold cei; rw [Int.neg_neg]
theorem flo_neg (n d : Int) : flo (-n) d = -(cei n d) := by unfold cei; rw [Int.neg_neg]

/-- The ends by natural numbers, as the code computes them. -/
theorem over_nat (a b d : Int) (hd : d ≠ 0) :
    (¬ (((a < 0) ≠ (b < 0)) ≠ (d < 0)) → flo (a * b) d = ((a.natAbs * b.natAbs / d.natAbs : Nat) : Int) ∧ cei (a * b) d = ((a.natAbs * b.natAbs / d.natAbs : Nat) : Int) + (if 0 < a.natAbs * b.natAbs % d.natAbs then 1 else 0)) ∧
    ((((a < 0) ≠ (b < 0)) ≠ (d < 0)) → cei (a * b) d = -((a.natAbs * b.natAbs / d.natAbs : Nat) : Int) ∧ flo (a * b) d = -(((a.natAbs * b.natAbs / d.natAbs : Nat) : Int) + (if 0 < a.natAbs * b.natAbs % d.natAbs then 1 else 0))) := by
  have hD : 0 < d.natAbs := by omega
  have f1 := flo_nat (a.natAbs * b.natAbs) d.natAbs
  have f2 := cei_nat (a.natAbs * b.natAbs) d.natAbs hD
  have key : (a * b = ((a.natAbs * b.natAbs : Nat) : Int) ∧ (a < 0 ↔ b < 0) ∨ a * b = -((a.natAbs * b.natAbs : Nat) : Int) ∧ ¬ (a < 0 ↔ b < 0)) := by
    by_cases h1 : a < 0 <;> by_cases h2 : b < 0
    · left
      refine ⟨?_, by simp [h1, h2]⟩
      rw [Int.natCast_mul, show (a.natAbs : Int) = -a by omega, show (b.natAbs : Int) = -b by omega, Int.neg_mul_neg]
    · right
      refine ⟨?_, by simp [h1, h2]⟩
      rw [Int.natCast_mul, show (a.natAbs : Int) = -a by omega, show (b.natAbs : Int) = b by omega, Int.neg_mul, Int.neg_neg]
    · right
      refine ⟨?_, by simp [h1, h2]⟩
      rw [Int.natCast_mul, show (a.natAbs : Int) = a by omega, show (b.natAbs : Int) = -b by omega, Int.mul_neg, Int.neg_neg]
    · left
      refine ⟨?_, by simp [h1, h2]⟩
      rw [Int.natCast_mul, show (a.natAbs : Int) = a by omega, show (b.natAbs : Int) = b by omega]
  generalize a.natAbs * b.natAbs = N at *
  by_cases h3 : d < 0
  · have e : d = -(d.natAbs : Int) := by omega
    generalize d.natAbs = D at *
    subst e
    have hD0 : (D : Int) ≠ 0 := by omega
    rw [flo_negd _ _ hD0, cei_negd _ _ hD0]
    rcases key with ⟨k1, k2⟩ | ⟨k1, k2⟩
    · rw [k1, flo_neg, cei_neg, f1, f2]
      simp [k2]; intro h; omega
    · rw [k1, Int.neg_neg, f1, f2]
      have : (a < 0) ≠ (b < 0) := fun h => k2 (by rw [h])
      simp [this]; intro h; omega
  · have e : d = (d.natAbs : Int) := by omega
    generalize d.natAbs = D at *
    subst e
    rcases key with ⟨k1, k2⟩ | ⟨k1, k2⟩
    · rw [k1, f1, f2]
      simp [k2, h3]
    · rw [k1, flo_neg, cei_neg, f1, f2]
      have : (a < 0) ≠ (b < 0) := fun h => k2 (by rw [h])
      simp [this, h3]

/-- over's ends serve as the exact ones where a band is made of them. -/
theorem over_good (a b d : Int) (hd : d ≠ 0) :
    ((-1000000000000000000 ≤ (overV a b d).1 ∧ (overV a b d).2 ≤ 1000000000000000000) ↔ (-1000000000000000000 ≤ flo (a * b) d ∧ cei (a * b) d ≤ 1000000000000000000)) ∧
    ((-1000000000000000000 ≤ flo (a * b) d ∧ cei (a * b) d ≤ 1000000000000000000) → overV a b d = (flo (a * b) d, cei (a * b) d)) := by
  unfold overV
  by_cases h : a.natAbs * b.natAbs / d.natAbs < 2305843009213693952
  · rw [if_pos h]; simp
  · rw [if_neg h]
    have hn := over_nat a b d hd
    by_cases hs : ((a < 0) ≠ (b < 0)) ≠ (d < 0)
    · rw [if_pos hs]
      obtain ⟨h1, h2⟩ := hn.2 hs
      simp only
      constructor
      · constructor
        · omega
        · intro ⟨h3, h4⟩
          split at h2 <;> omega
      · intro ⟨h3, h4⟩
        split at h2 <;> omega
    · rw [if_neg hs]
      obtain ⟨h1, h2⟩ := hn.1 hs
      simp only
      constructor
      · constructor
        · omega
        · intro ⟨h3, h4⟩
          split at h2 <;> omega
      · intro ⟨h3, h4⟩
        split at h2 <;> omega
theorem over_le (a b d : Int) (hd : d ≠ 0) : (overV a b d).1 ≤ (overV a b d).2 := by
  unfold overV
  split
  · exact flo_le_cei _ _ hd
  · split <;> simp

def mnL : List (Int × Int) → Int
  | [] => 0
  | p :: r => r.foldl (fun m x => min m x.1) p.1
def mxL : List (Int × Int) → Int
  | [] => 0
  | p :: r => r.foldl (fun m x => max m x.2) p.2
def rndB (l : List (Int × Int)) : BR := fitB (mnL l) (mxL l)

theorem fold_mn (r : List (Int × Int)) (m k : Int) : k ≤ r.foldl (fun m x => min m x.1) m ↔ k ≤ m ∧ ∀ p ∈ r, k ≤ p.1 := by
  induction r generalizing m with
  | nil => simp
  | cons p r ih =>
    rw [List.foldl_cons, ih]; simp only [List.mem_cons, forall_eq_or_imp]
    have : k ≤ min m p.1 ↔ k ≤ m ∧ k ≤ p.1 := by omega
    rw [this, and_assoc]
theorem fold_mx (r : List (Int × Int)) (m k : Int) : r.foldl (fun m x => max m x.2) m ≤ k ↔ m ≤ k ∧ ∀ p ∈ r, p.2 ≤ k := by
  induction r generalizing m with
  | nil => simp
  | cons p r ih =>
    rw [List.foldl_cons, ih]; simp only [List.mem_cons, forall_eq_or_imp]
    have : max m p.2 ≤ k ↔ m ≤ k ∧ p.2 ≤ k := by omega
    rw [this, and_assoc]
theorem le_mnL {l : List (Int × Int)} (h : l ≠ []) (k : Int) : k ≤ mnL l ↔ ∀ p ∈ l, k ≤ p.1 := by
  cases l with
  | nil => exact absurd rfl h
  | cons p r => rw [mnL, fold_mn]; simp
theorem mxL_le {l : List (Int × Int)} (h : l ≠ []) (k : Int) : mxL l ≤ k ↔ ∀ p ∈ l, p.2 ≤ k := by
  cases l with
  | nil => exact absurd rfl h
  | cons p r => rw [mxL, fold_mx]; simp

/-- A corner: the quotient of a product. -/
abbrev Cor := Int × Int × Int
def exV (x : Cor) : Int × Int := (flo (x.1 * x.2.1) x.2.2, cei (x.1 * x.2.1) x.2.2)
def ovV (x : Cor) : Int × Int := overV x.1 x.2.1 x.2.2
def goodC (x : Cor) : Prop := -1000000000000000000 ≤ (exV x).1 ∧ (exV x).2 ≤ 1000000000000000000

theorem ok_rnd {l : List (Int × Int)} (hne : l ≠ []) (hl : ∀ p ∈ l, p.1 ≤ p.2) : okB (mnL l) (mxL l) = true ↔ ∀ p ∈ l, -1000000000000000000 ≤ p.1 ∧ p.2 ≤ 1000000000000000000 := by
  have h1 := le_mnL hne (-1000000000000000000)
  have h2 := mxL_le hne 1000000000000000000
  have h3 : mnL l ≤ mxL l := by
    cases l with
    | nil => exact absurd rfl hne
    | cons p r =>
      have a := (le_mnL hne _).1 (Int.le_refl _) p (List.mem_cons_self ..)
      have b := (mxL_le hne _).1 (Int.le_refl _) p (List.mem_cons_self ..)
      have := hl p (List.mem_cons_self ..)
      omega
  rw [okB, decide_eq_true_iff, h1, h2]
  exact ⟨fun h p hp => ⟨h.1 p hp, h.2.2 p hp⟩, fun h => ⟨fun p hp => (h p hp).1, h3, fun p hp => (h p hp).2⟩⟩

theorem rnd_over {L : List Cor} (hne : L ≠ []) (hd : ∀ x ∈ L, x.2.2 ≠ 0) : rndB (L.map ovV) = rndB (L.map exV) := by
  by_cases h : ∀ x ∈ L, goodC x
  · have : L.map ovV = L.map exV := List.map_congr_left fun x hx => (over_good x.1 x.2.1 x.2.2 (hd x hx)).2 (h x hx)
    rw [this]
  · have n1 : ¬ okB (mnL (L.map exV)) (mxL (L.map exV)) = true := by
      rw [ok_rnd (by simpa using hne) (fun p hp => by obtain ⟨x, hx, rfl⟩ := List.mem_map.1 hp; exact flo_le_cei _ _ (hd x hx))]
      intro hc
      exact h fun x hx => hc _ (List.mem_map_of_mem hx)
    have n2 : ¬ okB (mnL (L.map ovV)) (mxL (L.map ovV)) = true := by
      rw [ok_rnd (by simpa using hne) (fun p hp => by obtain ⟨x, hx, rfl⟩ := List.mem_map.1 hp; exact over_le _ _ _ (hd x hx))]
      intro hc
      exact h fun x hx => (over_good x.1 x.2.1 x.2.2 (hd x hx)).1.1 (hc _ (List.mem_map_of_mem hx))
    rw [rndB, rndB, fitB, fitB, if_neg n1, if_neg n2]

/-- What a rounded list of corners is. -/
theorem rnd_spec {L : List Cor} (hne : L ≠ []) (hd : ∀ x ∈ L, x.2.2 ≠ 0) :
    ((rndB (L.map ovV)).e = 0 ∧ (∀ x ∈ L, goodC x) ∧ okB (rndB (L.map ovV)).lo (rndB (L.map ovV)).hi = true ∧ (∀ k, k ≤ (rndB (L.map ovV)).lo ↔ ∀ x ∈ L, k ≤ (exV x).1) ∧ (∀ k, (rndB (L.map ovV)).hi ≤ k ↔ ∀ x ∈ L, (exV x).2 ≤ k)) ∨
    (rndB (L.map ovV) = .bad 6 ∧ ¬ ∀ x ∈ L, goodC x) := by
  rw [rnd_over hne hd]
  have hk := ok_rnd (l := L.map exV) (by simpa using hne) (fun p hp => by obtain ⟨x, hx, rfl⟩ := List.mem_map.1 hp; exact flo_le_cei _ _ (hd x hx))
  by_cases h : ∀ x ∈ L, goodC x
  · have ho : okB (mnL (L.map exV)) (mxL (L.map exV)) = true := hk.2 fun p hp => by obtain ⟨x, hx, rfl⟩ := List.mem_map.1 hp; exact h x hx
    left
    rw [rndB, fitB, if_pos ho]
    refine ⟨rfl, h, ho, fun k => ?_, fun k => ?_⟩
    · show k ≤ mnL _ ↔ _
      rw [le_mnL (by simpa using hne)]
      exact ⟨fun h x hx => h _ (List.mem_map_of_mem hx), fun h p hp => by obtain ⟨x, hx, rfl⟩ := List.mem_map.1 hp; exact h x hx⟩
    · show mxL _ ≤ k ↔ _
      rw [mxL_le (by simpa using hne)]
      exact ⟨fun h x hx => h _ (List.mem_map_of_mem hx), fun h p hp => by obtain ⟨x, hx, rfl⟩ := List.mem_map.1 hp; exact h x hx⟩
  · right
    have hn : ¬ okB (mnL (L.map exV)) (mxL (L.map exV)) = true := fun hc => h fun x hx => hk.1 hc _ (List.mem_map_of_mem hx)
    exact ⟨by rw [rndB, fitB, if_neg hn], h⟩

def addB (a b c d : Int) : BR := twoB a b c d (fitB (a + c) (b + d))
def negB (a b : Int) : BR := oneB a b (fitB (-b) (-a))
def subB (a b c d : Int) : BR := twoB a b c d (fitB (a - d) (b - c))
def mulL (a b c d : Int) : List Cor := [(a, c, 1000000000000), (a, d, 1000000000000), (b, c, 1000000000000), (b, d, 1000000000000)]
def mulB (a b c d : Int) : BR := twoB a b c d (rndB ((mulL a b c d).map ovV))
def divL (a b c d : Int) : List Cor := [(a, 1000000000000, c), (a, 1000000000000, d), (b, 1000000000000, c), (b, 1000000000000, d)]
def divB (a b c d : Int) : BR := twoB a b c d (if c ≤ 0 ∧ 0 ≤ d then .bad 7 else rndB ((divL a b c d).map ovV))
def absB (a b : Int) : BR := oneB a b (fitB (max a (max (-b) 0)) (max b (-a)))
def sqrB (a b : Int) : BR := if (absB a b).e = 0 then mulB (absB a b).lo (absB a b).hi (absB a b).lo (absB a b).hi else .bad (absB a b).e
def sclL (a b n d : Int) : List Cor := [(a, n, d), (b, n, d)]
def sclB (a b n d : Int) : BR := oneB a b (if -1000000000000 ≤ n ∧ n ≤ 1000000000000 ∧ 1 ≤ d ∧ d ≤ 1000000000000 then rndB ((sclL a b n d).map ovV) else .bad 2)
def minB (a b c d : Int) : BR := twoB a b c d (fitB (min a c) (min b d))
def maxB (a b c d : Int) : BR := twoB a b c d (fitB (max a c) (max b d))
def hullB (a b c d : Int) : BR := twoB a b c d (fitB (min a c) (max b d))
def meetB0 (a b c d : Int) : BR := twoB a b c d (fitB (max a c) (min b d))
def meetB (a b c d : Int) : BR := if (meetB0 a b c d).e = 6 then .bad 4 else meetB0 a b c d
def clampB (a b lo hi : Int) : BR := oneB a b (if okB lo hi then fitB (min (max a lo) hi) (min (max b lo) hi) else .bad 2)
/-- Cmp's order, of valid bands. -/
def cmpV (a b c d : Int) : Int := if d < a then 1 else if b < c then -1 else if (a = c ∧ b = d) ∧ a = b then 0 else 2
/-- Cmp, as a result and an error number. -/
def cmpN (a b c d : Int) : Int := if okB a b && okB c d then cmpV a b c d else 0
def cmpE (a b c d : Int) : Int := if okB a b && okB c d then 0 else 30

theorem ok_iff (a b : Int) : okB a b = true ↔ (-1000000000000000000 ≤ a ∧ a ≤ b ∧ b ≤ 1000000000000000000) := by rw [okB, decide_eq_true_iff]
theorem two_ok {a b c d : Int} (h : okB a b = true) (h' : okB c d = true) (r : BR) : twoB a b c d r = r := by rw [twoB, h, h']; rfl
theorem one_ok {a b : Int} (h : okB a b = true) (r : BR) : oneB a b r = r := by rw [oneB, h]; rfl
theorem fit_ok {a b : Int} (h : okB a b = true) : fitB a b = ⟨a, b, 0⟩ := by rw [fitB, if_pos h]
theorem fit_cases (a b : Int) : (okB a b = true ∧ fitB a b = ⟨a, b, 0⟩) ∨ (¬ okB a b = true ∧ fitB a b = .bad 6) := by
  by_cases h : okB a b = true
  · exact .inl ⟨h, fit_ok h⟩
  · exact .inr ⟨h, by rw [fitB, if_neg h]⟩

theorem ovV_comm (x y E : Int) : ovV (x, y, E) = ovV (y, x, E) := by
  simp only [ovV, overV, Int.mul_comm x y, Nat.mul_comm x.natAbs y.natAbs]
  congr 1
  have : (((x < 0) ≠ (y < 0)) ≠ (E < 0)) ↔ (((y < 0) ≠ (x < 0)) ≠ (E < 0)) := by
    have e : ((x < 0) ≠ (y < 0)) = ((y < 0) ≠ (x < 0)) := propext ne_comm
    rw [e]
  by_cases h : ((x < 0) ≠ (y < 0)) ≠ (E < 0)
  · rw [if_pos h, if_pos (this.1 h)]
  · rw [if_neg h, if_neg (fun h' => h (this.2 h'))]
theorem rnd_swap (x y z t : Int × Int) : rndB [x, y, z, t] = rndB [x, z, y, t] := by
  have h1 : mnL [x, y, z, t] = mnL [x, z, y, t] := by simp only [mnL, List.foldl_cons, List.foldl_nil]; omega
  have h2 : mxL [x, y, z, t] = mxL [x, z, y, t] := by simp only [mxL, List.foldl_cons, List.foldl_nil]; omega
  rw [rndB, rndB, h1, h2]
theorem two_comm (a b c d : Int) (r : BR) : twoB a b c d r = twoB c d a b r := by rw [twoB, twoB, Bool.and_comm]
theorem add_comm_ (a b c d : Int) : addB a b c d = addB c d a b := by rw [addB, addB, two_comm, Int.add_comm a, Int.add_comm b]
theorem mul_comm_ (a b c d : Int) : mulB a b c d = mulB c d a b := by
  rw [mulB, mulB, two_comm]
  congr 1
  simp only [mulL, List.map_cons, List.map_nil]
  rw [ovV_comm a c, ovV_comm a d, ovV_comm b c, ovV_comm b d, rnd_swap]
theorem sub_add (a b c d : Int) (h' : okB c d = true) : negB c d = ⟨-d, -c, 0⟩ ∧ subB a b c d = addB a b (-d) (-c) := by
  have h := (ok_iff c d).1 h'
  have h2 : okB (-d) (-c) = true := (ok_iff _ _).2 (by omega)
  refine ⟨by rw [negB, one_ok h', fit_ok h2], ?_⟩
  rw [subB, addB, twoB, twoB, h', h2, Int.sub_eq_add_neg, Int.sub_eq_add_neg]

theorem hull_in {a b c d : Int} (h : okB a b = true) (h' : okB c d = true) : ∃ x y, hullB a b c d = ⟨x, y, 0⟩ ∧ x ≤ a ∧ b ≤ y ∧ x ≤ c ∧ d ≤ y := by
  have h1 := (ok_iff a b).1 h
  have h2 := (ok_iff c d).1 h'
  exact ⟨min a c, max b d, by rw [hullB, two_ok h h', fit_ok ((ok_iff _ _).2 (by omega))], by omega, by omega, by omega, by omega⟩
theorem meet_in {a b c d : Int} (h : okB a b = true) (h' : okB c d = true) :
    (meetB a b c d = ⟨max a c, min b d, 0⟩ ∧ max a c ≤ min b d) ∨ (meetB a b c d = .bad 4 ∧ min b d < max a c) := by
  have h1 := (ok_iff a b).1 h
  have h2 := (ok_iff c d).1 h'
  rcases fit_cases (max a c) (min b d) with ⟨e1, e2⟩ | ⟨e1, e2⟩
  · left
    have := (ok_iff _ _).1 e1
    refine ⟨?_, by omega⟩
    rw [meetB, meetB0, two_ok h h', e2]
    rfl
  · right
    rw [ok_iff] at e1
    refine ⟨?_, by omega⟩
    rw [meetB, meetB0, two_ok h h', e2]
    rfl

/-- Comparing agrees with the meet, and with the difference. -/
theorem cmp_meet {a b c d : Int} (h : okB a b = true) (h' : okB c d = true) : ((meetB a b c d).e = 4 ↔ cmpV a b c d = 1 ∨ cmpV a b c d = -1) := by
  have h1 := (ok_iff a b).1 h
  have h2 := (ok_iff c d).1 h'
  unfold cmpV
  rcases meet_in h h' with ⟨e, k⟩ | ⟨e, k⟩ <;> rw [e]
  · constructor
    · intro h; cases h
    · split
      · omega
      · split
        · omega
        · split <;> omega
  · refine ⟨fun _ => ?_, fun _ => rfl⟩
    split
    · omega
    · split
      · omega
      · omega
theorem cmp_sub {a b c d : Int} (h : okB a b = true) (h' : okB c d = true) (he : (subB a b c d).e = 0) :
    okB (subB a b c d).lo (subB a b c d).hi = true ∧ cmpV (subB a b c d).lo (subB a b c d).hi 0 0 = cmpV a b c d := by
  have h1 := (ok_iff a b).1 h
  have h2 := (ok_iff c d).1 h'
  rw [subB, two_ok h h'] at he ⊢
  rcases fit_cases (a - d) (b - c) with ⟨e1, e2⟩ | ⟨e1, e2⟩
  · rw [e2]
    refine ⟨e1, ?_⟩
    simp only
    unfold cmpV
    repeat' split
    all_goals omega
  · rw [e2] at he
    cases he

theorem clamp_in {a b c d : Int} (h : okB a b = true) (h' : okB c d = true) :
    ∃ x y, clampB a b c d = ⟨x, y, 0⟩ ∧ c ≤ x ∧ y ≤ d ∧ ((meetB a b c d).e = 0 → meetB a b c d = ⟨x, y, 0⟩) ∧ ((meetB a b c d).e = 4 → x = y) := by
  have h1 := (ok_iff a b).1 h
  have h2 := (ok_iff c d).1 h'
  refine ⟨min (max a c) d, min (max b c) d, ?_, by omega, by omega, ?_, ?_⟩
  · rw [clampB, one_ok h, if_pos h', fit_ok ((ok_iff _ _).2 (by omega))]
  · rcases meet_in h h' with ⟨e, k⟩ | ⟨e, k⟩ <;> rw [e]
    · intro _
      rw [show min (max a c) d = max a c by omega, show min (max b c) d = min b d by omega]
    · intro hc; cases hc
  · rcases meet_in h h' with ⟨e, k⟩ | ⟨e, k⟩ <;> rw [e]
    · intro hc; cases hc
    · intro _; omega

theorem scl_spec {a b n d : Int} (h : okB a b = true) (hn : -1000000000000 ≤ n ∧ n ≤ 1000000000000 ∧ 1 ≤ d ∧ d ≤ 1000000000000) (hn0 : 0 ≤ n)
    (hlo : -1000000000000000000 * d ≤ a * n) (hhi : b * n ≤ 1000000000000000000 * d) :
    (sclB a b n d).e = 0 ∧ okB (sclB a b n d).lo (sclB a b n d).hi = true ∧ (∀ k, k ≤ (sclB a b n d).lo ↔ k * d ≤ a * n) ∧ (∀ k, (sclB a b n d).hi ≤ k ↔ b * n ≤ k * d) := by
  have h1 := (ok_iff a b).1 h
  have hd : 0 < d := by omega
  have hab : a * n ≤ b * n := Int.mul_le_mul_of_nonneg_right h1.2.1 hn0
  have hdl : ∀ x ∈ sclL a b n d, x.2.2 ≠ 0 := by
    intro x hx
    simp only [sclL, List.mem_cons, List.not_mem_nil, or_false] at hx
    rcases hx with rfl | rfl <;> simp only <;> omega
  have e : sclB a b n d = rndB ((sclL a b n d).map ovV) := by rw [sclB, one_ok h, if_pos hn]
  have flo_mono : flo (a * n) d ≤ flo (b * n) d := (le_flo hd).2 (Int.le_trans ((le_flo hd).1 (Int.le_refl _)) hab)
  have cei_mono : cei (a * n) d ≤ cei (b * n) d := (cei_le hd).2 (Int.le_trans hab ((cei_le hd).1 (Int.le_refl _)))
  have g1 : -1000000000000000000 ≤ flo (a * n) d := (le_flo hd).2 hlo
  have g2 : cei (b * n) d ≤ 1000000000000000000 := (cei_le hd).2 hhi
  rcases rnd_spec (L := sclL a b n d) (by simp [sclL]) hdl with ⟨r1, _, r3, r4, r5⟩ | ⟨_, r2⟩
  · rw [e]
    refine ⟨r1, r3, fun k => ?_, fun k => ?_⟩
    · rw [r4]
      simp only [sclL, List.mem_cons, List.not_mem_nil, or_false, forall_eq_or_imp, forall_eq, exV, le_flo hd]
      omega
    · rw [r5]
      simp only [sclL, List.mem_cons, List.not_mem_nil, or_false, forall_eq_or_imp, forall_eq, exV, cei_le hd]
      omega
  · exact absurd (fun x hx => by
      simp only [sclL, List.mem_cons, List.not_mem_nil, or_false] at hx
      rcases hx with rfl | rfl
      · exact ⟨g1, Int.le_trans cei_mono g2⟩
      · exact ⟨Int.le_trans g1 flo_mono, g2⟩) r2

theorem mul_bd {a k lo hi : Int} (h : lo ≤ a) (h2 : a ≤ hi) (hk : 0 ≤ k) : lo * k ≤ a * k ∧ a * k ≤ hi * k :=
  ⟨Int.mul_le_mul_of_nonneg_right h hk, Int.mul_le_mul_of_nonneg_right h2 hk⟩

/-- Scaling by k / l and back. -/
theorem scl_law {a b k l : Int} (ha : -19000000000000 < a) (hab : a ≤ b) (hb : b ≤ 19000001000000) (hk : 1 ≤ k) (hk2 : k ≤ 50000) (hl : 1 ≤ l) (hl2 : l ≤ 50000) :
    (sclB a b k l).e = 0 ∧ (sclB (sclB a b k l).lo (sclB a b k l).hi l k).e = 0 ∧ (sclB (sclB a b k l).lo (sclB a b k l).hi l k).lo ≤ a ∧ b ≤ (sclB (sclB a b k l).lo (sclB a b k l).hi l k).hi ∧ sclB a b k k = ⟨a, b, 0⟩ := by
  have h : okB a b = true := (ok_iff _ _).2 (by omega)
  have m1 := mul_bd (a := a) (k := k) (lo := -19000000000000) (hi := 19000001000000) (by omega) (by omega) (by omega)
  have m2 := mul_bd (a := b) (k := k) (lo := -19000000000000) (hi := 19000001000000) (by omega) (by omega) (by omega)
  obtain ⟨s1, s2, s3, s4⟩ := scl_spec h (n := k) (d := l) (by omega) (by omega) (by omega) (by omega)
  obtain ⟨c, hc⟩ : ∃ c, (sclB a b k l).lo = c := ⟨_, rfl⟩
  obtain ⟨d, hd⟩ : ∃ d, (sclB a b k l).hi = d := ⟨_, rfl⟩
  rw [hc] at s2 s3
  rw [hd] at s2 s4
  rw [hc, hd]
  have q1 := (s3 c).1 (Int.le_refl _)
  have q2 := (s4 d).1 (Int.le_refl _)
  have q3 : ¬ (c + 1 ≤ c) := by omega
  rw [s3, Int.add_mul] at q3
  have q4 : ¬ (d ≤ d - 1) := by omega
  rw [s4, Int.sub_mul] at q4
  obtain ⟨t1, t2, t3, t4⟩ := scl_spec s2 (n := l) (d := k) (by omega) (by omega) (by omega) (by omega)
  refine ⟨s1, t1, ?_, ?_, ?_⟩
  · have := (t3 _).1 (Int.le_refl _)
    exact Int.le_of_mul_le_mul_right (Int.le_trans this q1) (by omega)
  · have := (t4 _).1 (Int.le_refl _)
    exact Int.le_of_mul_le_mul_right (Int.le_trans q2 this) (by omega)
  · obtain ⟨u1, u2, u3, u4⟩ := scl_spec h (n := k) (d := k) (by omega) (by omega) (by omega) (by omega)
    have v1 := (u3 a).2 (Int.le_refl _)
    have v2 := Int.le_of_mul_le_mul_right ((u3 _).1 (Int.le_refl _)) (by omega)
    have v3 := (u4 b).2 (Int.le_refl _)
    have v4 := Int.le_of_mul_le_mul_right ((u4 _).1 (Int.le_refl _)) (by omega)
    have w1 : (sclB a b k k).lo = a := by omega
    have w2 : (sclB a b k k).hi = b := by omega
    generalize sclB a b k k = r at *
    cases r
    simp only at u1 w1 w2
    rw [u1, w1, w2]

/-- One band within another one. -/
def inB (r s : BR) : Prop := s.lo ≤ r.lo ∧ r.hi ≤ s.hi

theorem sub_ok {a b m n : Int} (h : okB a b = true) (h1 : a ≤ m) (h2 : m ≤ n) (h3 : n ≤ b) : okB m n = true := by
  rw [ok_iff] at *; omega
theorem fit_shrink {a b m n : Int} (h : (fitB a b).e = 0) (h1 : a ≤ m) (h2 : m ≤ n) (h3 : n ≤ b) : (fitB m n).e = 0 ∧ inB (fitB m n) (fitB a b) := by
  rcases fit_cases a b with ⟨e1, e2⟩ | ⟨_, e2⟩
  · rw [e2, fit_ok (sub_ok e1 h1 h2 h3)]
    exact ⟨rfl, h1, h3⟩
  · rw [e2] at h; cases h

theorem rnd_shrink {L M : List Cor} (hL : L ≠ []) (hM : M ≠ []) (dL : ∀ x ∈ L, x.2.2 ≠ 0) (dM : ∀ x ∈ M, x.2.2 ≠ 0)
    (h1 : ∀ y ∈ M, ∀ k, (∀ x ∈ L, k ≤ (exV x).1) → k ≤ (exV y).1) (h2 : ∀ y ∈ M, ∀ k, (∀ x ∈ L, (exV x).2 ≤ k) → (exV y).2 ≤ k) (he : (rndB (L.map ovV)).e = 0) :
    (rndB (M.map ovV)).e = 0 ∧ inB (rndB (M.map ovV)) (rndB (L.map ovV)) := by
  rcases rnd_spec hL dL with ⟨_, g, _, r4, r5⟩ | ⟨e, _⟩
  · rcases rnd_spec hM dM with ⟨s1, _, _, s4, s5⟩ | ⟨_, s2⟩
    · refine ⟨s1, (s4 _).2 fun y hy => h1 y hy _ ((r4 _).1 (Int.le_refl _)), (s5 _).2 fun y hy => h2 y hy _ ((r5 _).1 (Int.le_refl _))⟩
    · exact absurd (fun y hy => ⟨h1 y hy _ fun x hx => (g x hx).1, h2 y hy _ fun x hx => (g x hx).2⟩) s2
  · rw [e] at he; cases he

theorem between {k y c d t : Int} (h1 : c ≤ y) (h2 : y ≤ d) (hc : k * c ≤ t) (hd : k * d ≤ t) : k * y ≤ t := by
  by_cases hk : 0 ≤ k
  · exact Int.le_trans (Int.mul_le_mul_of_nonneg_left h2 hk) hd
  · exact Int.le_trans (Int.mul_le_mul_of_nonpos_left (by omega) h1) hc
theorem between' {k y c d t : Int} (h1 : c ≤ y) (h2 : y ≤ d) (hc : t ≤ k * c) (hd : t ≤ k * d) : t ≤ k * y := by
  have := between (k := -k) (t := -t) h1 h2 (by rw [Int.neg_mul]; omega) (by rw [Int.neg_mul]; omega)
  rw [Int.neg_mul] at this; omega
theorem box {x y a b c d t : Int} (h1 : a ≤ x) (h2 : x ≤ b) (h3 : c ≤ y) (h4 : y ≤ d) (p1 : a * c ≤ t) (p2 : a * d ≤ t) (p3 : b * c ≤ t) (p4 : b * d ≤ t) : x * y ≤ t := by
  have u := between h3 h4 p1 p2
  have v := between h3 h4 p3 p4
  rw [Int.mul_comm] at u v ⊢
  exact between h1 h2 u v
theorem box' {x y a b c d t : Int} (h1 : a ≤ x) (h2 : x ≤ b) (h3 : c ≤ y) (h4 : y ≤ d) (p1 : t ≤ a * c) (p2 : t ≤ a * d) (p3 : t ≤ b * c) (p4 : t ≤ b * d) : t ≤ x * y := by
  have u := between' h3 h4 p1 p2
  have v := between' h3 h4 p3 p4
  rw [Int.mul_comm] at u v ⊢
  exact between' h1 h2 u v

/-- The exact product of points lies between the corners. -/
theorem mul_point {x y a b c d k : Int} (h1 : a ≤ x) (h2 : x ≤ b) (h3 : c ≤ y) (h4 : y ≤ d) :
    ((∀ p ∈ mulL a b c d, k ≤ (exV p).1) → k * 1000000000000 ≤ x * y) ∧ ((∀ p ∈ mulL a b c d, (exV p).2 ≤ k) → x * y ≤ k * 1000000000000) := by
  have hE : (0 : Int) < 1000000000000 := by decide
  simp only [mulL, List.mem_cons, List.not_mem_nil, or_false, forall_eq_or_imp, forall_eq, exV, le_flo hE, cei_le hE]
  exact ⟨fun ⟨p1, p2, p3, p4⟩ => box' h1 h2 h3 h4 p1 p2 p3 p4, fun ⟨p1, p2, p3, p4⟩ => box h1 h2 h3 h4 p1 p2 p3 p4⟩

/-- The exact quotient of points lies between the corners. -/
theorem div_point {x y a b c d k E : Int} (hE : 0 < E) (h1 : a ≤ x) (h2 : x ≤ b) (h3 : c ≤ y) (h4 : y ≤ d) (h0 : ¬ (c ≤ 0 ∧ 0 ≤ d)) :
    ((k ≤ flo (a * E) c ∧ k ≤ flo (a * E) d ∧ k ≤ flo (b * E) c ∧ k ≤ flo (b * E) d) → k ≤ flo (x * E) y) ∧
    ((cei (a * E) c ≤ k ∧ cei (a * E) d ≤ k ∧ cei (b * E) c ≤ k ∧ cei (b * E) d ≤ k) → cei (x * E) y ≤ k) := by
  have m1 : a * E ≤ x * E := Int.mul_le_mul_of_nonneg_right h1 (by omega)
  have m2 : x * E ≤ b * E := Int.mul_le_mul_of_nonneg_right h2 (by omega)
  by_cases hc : 0 < c
  · have hd : 0 < d := by omega
    have hy : 0 < y := by omega
    simp only [le_flo hc, le_flo hd, le_flo hy, cei_le hc, cei_le hd, cei_le hy]
    exact ⟨fun ⟨p1, p2, _, _⟩ => Int.le_trans (between h3 h4 p1 p2) m1, fun ⟨_, _, p3, p4⟩ => Int.le_trans m2 (between' h3 h4 p3 p4)⟩
  · have hd : d < 0 := by omega
    have hc' : c < 0 := by omega
    have hy : y < 0 := by omega
    simp only [le_flo' hc', le_flo' hd, le_flo' hy, cei_le' hc', cei_le' hd, cei_le' hy]
    exact ⟨fun ⟨_, _, p3, p4⟩ => Int.le_trans m2 (between' h3 h4 p3 p4), fun ⟨p1, p2, _, _⟩ => Int.le_trans (between h3 h4 p1 p2) m1⟩

theorem mul_dL (a b c d : Int) : ∀ x ∈ mulL a b c d, x.2.2 ≠ 0 := by
  intro x hx
  simp only [mulL, List.mem_cons, List.not_mem_nil, or_false] at hx
  rcases hx with rfl | rfl | rfl | rfl <;> simp
theorem div_dL {a b c d : Int} (h : c ≤ d) (h0 : ¬ (c ≤ 0 ∧ 0 ≤ d)) : ∀ x ∈ divL a b c d, x.2.2 ≠ 0 := by
  intro x hx
  simp only [divL, List.mem_cons, List.not_mem_nil, or_false] at hx
  rcases hx with rfl | rfl | rfl | rfl <;> simp only <;> omega

section
variable {a b c d m n s t : Int} (h : okB a b = true) (h' : okB c d = true) (h1 : a ≤ m) (h2 : m ≤ n) (h3 : n ≤ b) (k1 : c ≤ s) (k2 : s ≤ t) (k3 : t ≤ d)
include h h' h1 h2 h3 k1 k2 k3
theorem shrink_add (he : (addB a b c d).e = 0) : (addB m n s t).e = 0 ∧ inB (addB m n s t) (addB a b c d) := by
  have g := sub_ok h h1 h2 h3
  have g' := sub_ok h' k1 k2 k3
  rw [addB, addB, two_ok h h', two_ok g g'] at *
  exact fit_shrink he (by omega) (by omega) (by omega)
theorem shrink_sub (he : (subB a b c d).e = 0) : (subB m n s t).e = 0 ∧ inB (subB m n s t) (subB a b c d) := by
  have g := sub_ok h h1 h2 h3
  have g' := sub_ok h' k1 k2 k3
  rw [subB, subB, two_ok h h', two_ok g g'] at *
  exact fit_shrink he (by omega) (by omega) (by omega)
theorem shrink_min (he : (minB a b c d).e = 0) : (minB m n s t).e = 0 ∧ inB (minB m n s t) (minB a b c d) := by
  have g := sub_ok h h1 h2 h3
  have g' := sub_ok h' k1 k2 k3
  rw [minB, minB, two_ok h h', two_ok g g'] at *
  exact fit_shrink he (by omega) (by omega) (by omega)
theorem shrink_max (he : (maxB a b c d).e = 0) : (maxB m n s t).e = 0 ∧ inB (maxB m n s t) (maxB a b c d) := by
  have g := sub_ok h h1 h2 h3
  have g' := sub_ok h' k1 k2 k3
  rw [maxB, maxB, two_ok h h', two_ok g g'] at *
  exact fit_shrink he (by omega) (by omega) (by omega)
theorem shrink_hull (he : (hullB a b c d).e = 0) : (hullB m n s t).e = 0 ∧ inB (hullB m n s t) (hullB a b c d) := by
  have g := sub_ok h h1 h2 h3
  have g' := sub_ok h' k1 k2 k3
  rw [hullB, hullB, two_ok h h', two_ok g g'] at *
  exact fit_shrink he (by omega) (by omega) (by omega)
theorem shrink_mul (he : (mulB a b c d).e = 0) : (mulB m n s t).e = 0 ∧ inB (mulB m n s t) (mulB a b c d) := by
  have g := sub_ok h h1 h2 h3
  have g' := sub_ok h' k1 k2 k3
  have hE : (0 : Int) < 1000000000000 := by decide
  rw [mulB, mulB, two_ok h h', two_ok g g'] at *
  have main : ∀ y ∈ mulL m n s t, ∃ u v, y = (u, v, 1000000000000) ∧ a ≤ u ∧ u ≤ b ∧ c ≤ v ∧ v ≤ d := by
    intro y hy
    simp only [mulL, List.mem_cons, List.not_mem_nil, or_false] at hy
    rcases hy with rfl | rfl | rfl | rfl <;> exact ⟨_, _, rfl, by omega, by omega, by omega, by omega⟩
  refine rnd_shrink (by simp [mulL]) (by simp [mulL]) (mul_dL _ _ _ _) (mul_dL _ _ _ _) ?_ ?_ he
  · intro y hy k hk
    obtain ⟨u, v, rfl, a1, a2, a3, a4⟩ := main y hy
    exact (le_flo hE).2 ((mul_point a1 a2 a3 a4).1 hk)
  · intro y hy k hk
    obtain ⟨u, v, rfl, a1, a2, a3, a4⟩ := main y hy
    exact (cei_le hE).2 ((mul_point a1 a2 a3 a4).2 hk)
theorem shrink_div (he : (divB a b c d).e = 0) : (divB m n s t).e = 0 ∧ inB (divB m n s t) (divB a b c d) := by
  have g := sub_ok h h1 h2 h3
  have g' := sub_ok h' k1 k2 k3
  have hcd := ((ok_iff c d).1 h').2.1
  rw [divB, divB, two_ok h h', two_ok g g'] at *
  by_cases h0 : c ≤ 0 ∧ 0 ≤ d
  · rw [if_pos h0] at he; cases he
  have h0' : ¬ (s ≤ 0 ∧ 0 ≤ t) := by omega
  rw [if_neg h0] at he
  rw [if_neg h0, if_neg h0']
  have main : ∀ y ∈ divL m n s t, ∃ u v, y = (u, 1000000000000, v) ∧ a ≤ u ∧ u ≤ b ∧ c ≤ v ∧ v ≤ d := by
    intro y hy
    simp only [divL, List.mem_cons, List.not_mem_nil, or_false] at hy
    rcases hy with rfl | rfl | rfl | rfl <;> exact ⟨_, _, rfl, by omega, by omega, by omega, by omega⟩
  refine rnd_shrink (by simp [divL]) (by simp [divL]) (div_dL hcd h0) (div_dL k2 h0') ?_ ?_ he
  · intro y hy k hk
    obtain ⟨u, v, rfl, a1, a2, a3, a4⟩ := main y hy
    simp only [divL, List.mem_cons, List.not_mem_nil, or_false, forall_eq_or_imp, forall_eq, exV] at hk
    exact (div_point (E := 1000000000000) (by decide) a1 a2 a3 a4 h0).1 hk
  · intro y hy k hk
    obtain ⟨u, v, rfl, a1, a2, a3, a4⟩ := main y hy
    simp only [divL, List.mem_cons, List.not_mem_nil, or_false, forall_eq_or_imp, forall_eq, exV] at hk
    exact (div_point (E := 1000000000000) (by decide) a1 a2 a3 a4 h0).2 hk
end

end Go.Proofs.YtkajibniibjblaaGreatDoor
