/-
  band: exact results lie in the results on bands. No program in sight.
-/
import Derived.Test.YtkajibniibjblaaGreatDoorBandMath
namespace Go.Proofs.YtkajibniibjblaaGreatDoor

def hasB (lo hi : Int) (q : Rat) : Bool := decide ((lo : Rat) ≤ q * 1000000000000 ∧ q * 1000000000000 ≤ (hi : Rat))
theorem unit_mul (i : Int) : mkRat i 1000000000000 * (1000000000000 : Rat) = (i : Rat) := by
  rw [Rat.mkRat_eq_div]; grind
theorem has_iff (lo hi : Int) (q : Rat) : hasB lo hi q = true ↔ ((lo : Rat) ≤ q * 1000000000000 ∧ q * 1000000000000 ≤ (hi : Rat)) := decide_eq_true_iff

theorem has_add {i j lo hi : Int} (h1 : lo ≤ i + j) (h2 : i + j ≤ hi) : hasB lo hi (mkRat i 1000000000000 + mkRat j 1000000000000) = true := by
  rw [has_iff, Rat.add_mul, unit_mul, unit_mul, ← Rat.intCast_add, Rat.intCast_le_intCast, Rat.intCast_le_intCast]
  exact ⟨h1, h2⟩
theorem has_sub {i j lo hi : Int} (h1 : lo ≤ i - j) (h2 : i - j ≤ hi) : hasB lo hi (mkRat i 1000000000000 - mkRat j 1000000000000) = true := by
  have e : (mkRat i 1000000000000 - mkRat j 1000000000000) * 1000000000000 = ((i - j : Int) : Rat) := by
    have u1 := unit_mul i
    have u2 := unit_mul j
    rw [Rat.intCast_sub]; grind
  rw [has_iff, e, Rat.intCast_le_intCast, Rat.intCast_le_intCast]
  exact ⟨h1, h2⟩
theorem has_mul {i j lo hi : Int} (h1 : lo * 1000000000000 ≤ i * j) (h2 : i * j ≤ hi * 1000000000000) : hasB lo hi (mkRat i 1000000000000 * mkRat j 1000000000000) = true := by
  have e : (mkRat i 1000000000000 * mkRat j 1000000000000) * 1000000000000 * 1000000000000 = ((i * j : Int) : Rat) := by
    have u1 := unit_mul i
    have u2 := unit_mul j
    rw [Rat.intCast_mul]; grind
  have c1 : (lo : Rat) * 1000000000000 = ((lo * 1000000000000 : Int) : Rat) := by rw [Rat.intCast_mul]; rfl
  have c2 : (hi : Rat) * 1000000000000 = ((hi * 1000000000000 : Int) : Rat) := by rw [Rat.intCast_mul]; rfl
  have hE : (0 : Rat) < 1000000000000 := by decide
  rw [has_iff]
  refine ⟨Rat.le_of_mul_le_mul_right (c := 1000000000000) ?_ hE, Rat.le_of_mul_le_mul_right (c := 1000000000000) ?_ hE⟩
  · rw [e, c1, Rat.intCast_le_intCast]; exact h1
  · rw [e, c2, Rat.intCast_le_intCast]; exact h2
theorem has_div {i j lo hi : Int} (hj : j ≠ 0) (h1 : lo ≤ flo (i * 1000000000000) j) (h2 : cei (i * 1000000000000) j ≤ hi) : hasB lo hi (mkRat i 1000000000000 / mkRat j 1000000000000) = true := by
  have u1 := unit_mul i
  have u2 := unit_mul j
  have hj' : (j : Rat) ≠ 0 := by
    intro h
    exact hj (Rat.intCast_inj.1 (by rw [h]; rfl))
  have hv : mkRat j 1000000000000 ≠ 0 := by
    intro h
    rw [h, Rat.zero_mul] at u2
    exact hj' u2.symm
  have e : (mkRat i 1000000000000 / mkRat j 1000000000000) * 1000000000000 * (j : Rat) = ((i * 1000000000000 : Int) : Rat) := by
    rw [Rat.intCast_mul]
    show _ = (i : Rat) * 1000000000000
    grind
  have c1 : (lo : Rat) * j = ((lo * j : Int) : Rat) := by rw [Rat.intCast_mul]
  have c2 : (hi : Rat) * j = ((hi * j : Int) : Rat) := by rw [Rat.intCast_mul]
  rw [has_iff]
  obtain ⟨x, hx⟩ : ∃ x : Rat, (mkRat i 1000000000000 / mkRat j 1000000000000) * 1000000000000 = x := ⟨_, rfl⟩
  rw [hx] at e ⊢
  by_cases hp : 0 < j
  · have hp' : (0 : Rat) < j := by have := Rat.intCast_lt_intCast.2 hp; exact this
    rw [le_flo hp] at h1
    rw [cei_le hp] at h2
    refine ⟨Rat.le_of_mul_le_mul_right (c := (j : Rat)) ?_ hp', Rat.le_of_mul_le_mul_right (c := (j : Rat)) ?_ hp'⟩
    · rw [e, c1, Rat.intCast_le_intCast]; exact h1
    · rw [e, c2, Rat.intCast_le_intCast]; exact h2
  · have hn : j < 0 := by omega
    have hn' : (0 : Rat) < ((-j : Int) : Rat) := by have := Rat.intCast_lt_intCast.2 (show (0 : Int) < -j by omega); exact this
    rw [le_flo' hn] at h1
    rw [cei_le' hn] at h2
    refine ⟨Rat.le_of_mul_le_mul_right (c := ((-j : Int) : Rat)) ?_ hn', Rat.le_of_mul_le_mul_right (c := ((-j : Int) : Rat)) ?_ hn'⟩
    · rw [Rat.intCast_neg, Rat.mul_neg, Rat.mul_neg, e, c1, Rat.neg_le_neg_iff, Rat.intCast_le_intCast]; exact h1
    · rw [Rat.intCast_neg, Rat.mul_neg, Rat.mul_neg, e, c2, Rat.neg_le_neg_iff, Rat.intCast_le_intCast]; exact h2

theorem add_pt {i j : Int} (h : okB i i = true) (h' : okB j j = true) (hs : okB (i + j) (i + j) = true) : addB i i j j = ⟨i + j, i + j, 0⟩ := by rw [addB, two_ok h h', fit_ok hs]
theorem sub_pt {i j : Int} (h : okB i i = true) (h' : okB j j = true) (hs : okB (i - j) (i - j) = true) : subB i i j j = ⟨i - j, i - j, 0⟩ := by rw [subB, two_ok h h', fit_ok hs]
theorem rnd_pt {L : List Cor} {n d : Int} (hd : d ≠ 0) (hne : L ≠ []) (hL : ∀ x ∈ L, x.2.2 = d ∧ x.1 * x.2.1 = n) (he : (rndB (L.map ovV)).e = 0) :
    (rndB (L.map ovV)).lo = flo n d ∧ (rndB (L.map ovV)).hi = cei n d ∧ (rndB (L.map ovV)).hi - (rndB (L.map ovV)).lo ≤ 1 := by
  have hx : ∀ x ∈ L, exV x = (flo n d, cei n d) := fun x hx => by obtain ⟨h1, h2⟩ := hL x hx; rw [exV, h1, h2]
  rcases rnd_spec hne (fun x hx => by rw [(hL x hx).1]; exact hd) with ⟨_, _, _, h4, h5⟩ | ⟨h, _⟩
  · obtain ⟨x0, hx0⟩ := List.exists_mem_of_ne_nil L hne
    have a1 := (h4 (flo n d)).2 fun x h => by rw [hx x h]; exact Int.le_refl _
    have a2 := (h4 _).1 (Int.le_refl _) x0 hx0
    rw [hx x0 hx0] at a2
    have a3 := (h5 (cei n d)).2 fun x h => by rw [hx x h]; exact Int.le_refl _
    have a4 := (h5 _).1 (Int.le_refl _) x0 hx0
    rw [hx x0 hx0] at a4
    have a5 := cei_le_flo n d hd
    simp only at a2 a4
    omega
  · rw [h] at he; cases he

/-- What BandHolds asks of one operation, at points i, j of the arguments. -/
structure Held (r one : BR) (q : Rat) : Prop where
  e : one.e = 0
  wide : one.hi - one.lo ≤ 1
  in_ : inB one r
  has : hasB r.lo r.hi q = true

theorem held_add {a b c d i j : Int} (h : okB a b = true) (h' : okB c d = true) (h1 : a ≤ i) (h2 : i ≤ b) (h3 : c ≤ j) (h4 : j ≤ d) (he : (addB a b c d).e = 0) :
    Held (addB a b c d) (addB i i j j) (mkRat i 1000000000000 + mkRat j 1000000000000) := by
  obtain ⟨s1, s2⟩ := shrink_add h h' h1 (Int.le_refl i) h2 h3 (Int.le_refl j) h4 he
  have g : addB i i j j = ⟨i + j, i + j, 0⟩ := by
    have o1 := sub_ok h h1 (Int.le_refl i) h2
    have o2 := sub_ok h' h3 (Int.le_refl j) h4
    rw [addB, two_ok o1 o2] at s1 ⊢
    rcases fit_cases (i + j) (i + j) with ⟨_, e⟩ | ⟨_, e⟩
    · exact e
    · rw [e] at s1; cases s1
  have s3 := s2
  rw [g] at s3
  exact ⟨s1, by rw [g]; simp only; omega, s2, has_add s3.1 s3.2⟩
theorem held_sub {a b c d i j : Int} (h : okB a b = true) (h' : okB c d = true) (h1 : a ≤ i) (h2 : i ≤ b) (h3 : c ≤ j) (h4 : j ≤ d) (he : (subB a b c d).e = 0) :
    Held (subB a b c d) (subB i i j j) (mkRat i 1000000000000 - mkRat j 1000000000000) := by
  obtain ⟨s1, s2⟩ := shrink_sub h h' h1 (Int.le_refl i) h2 h3 (Int.le_refl j) h4 he
  have g : subB i i j j = ⟨i - j, i - j, 0⟩ := by
    have o1 := sub_ok h h1 (Int.le_refl i) h2
    have o2 := sub_ok h' h3 (Int.le_refl j) h4
    rw [subB, two_ok o1 o2] at s1 ⊢
    rcases fit_cases (i - j) (i - j) with ⟨_, e⟩ | ⟨_, e⟩
    · exact e
    · rw [e] at s1; cases s1
  have s3 := s2
  rw [g] at s3
  exact ⟨s1, by rw [g]; simp only; omega, s2, has_sub s3.1 s3.2⟩
theorem held_mul {a b c d i j : Int} (h : okB a b = true) (h' : okB c d = true) (h1 : a ≤ i) (h2 : i ≤ b) (h3 : c ≤ j) (h4 : j ≤ d) (he : (mulB a b c d).e = 0) :
    Held (mulB a b c d) (mulB i i j j) (mkRat i 1000000000000 * mkRat j 1000000000000) := by
  obtain ⟨s1, s2⟩ := shrink_mul h h' h1 (Int.le_refl i) h2 h3 (Int.le_refl j) h4 he
  have o1 := sub_ok h h1 (Int.le_refl i) h2
  have o2 := sub_ok h' h3 (Int.le_refl j) h4
  have s3 := s2
  have hw : (mulB i i j j).hi - (mulB i i j j).lo ≤ 1 ∧ (mulB i i j j).lo = flo (i * j) 1000000000000 ∧ (mulB i i j j).hi = cei (i * j) 1000000000000 := by
    rw [mulB, two_ok o1 o2] at s1 ⊢
    have := rnd_pt (L := mulL i i j j) (n := i * j) (d := 1000000000000) (by decide) (by simp [mulL]) (by simp [mulL]) s1
    exact ⟨this.2.2, this.1, this.2.1⟩
  obtain ⟨w1, w2, w3⟩ := hw
  rw [inB, w2, w3] at s3
  exact ⟨s1, w1, s2, has_mul ((le_flo (by decide)).1 s3.1) ((cei_le (by decide)).1 s3.2)⟩
theorem held_div {a b c d i j : Int} (h : okB a b = true) (h' : okB c d = true) (h1 : a ≤ i) (h2 : i ≤ b) (h3 : c ≤ j) (h4 : j ≤ d) (he : (divB a b c d).e = 0) :
    j ≠ 0 ∧ Held (divB a b c d) (divB i i j j) (mkRat i 1000000000000 / mkRat j 1000000000000) := by
  obtain ⟨s1, s2⟩ := shrink_div h h' h1 (Int.le_refl i) h2 h3 (Int.le_refl j) h4 he
  have o1 := sub_ok h h1 (Int.le_refl i) h2
  have o2 := sub_ok h' h3 (Int.le_refl j) h4
  have s3 := s2
  have hj : j ≠ 0 := by
    rintro rfl
    rw [divB, two_ok o1 o2, if_pos (by decide)] at s1
    cases s1
  have hw : (divB i i j j).hi - (divB i i j j).lo ≤ 1 ∧ (divB i i j j).lo = flo (i * 1000000000000) j ∧ (divB i i j j).hi = cei (i * 1000000000000) j := by
    rw [divB, two_ok o1 o2, if_neg (by omega)] at s1 ⊢
    have := rnd_pt (L := divL i i j j) (n := i * 1000000000000) (d := j) hj (by simp [divL]) (by simp [divL]) s1
    exact ⟨this.2.2, this.1, this.2.1⟩
  obtain ⟨w1, w2, w3⟩ := hw
  rw [inB, w2, w3] at s3
  exact ⟨hj, s1, w1, s2, has_div hj s3.1 s3.2⟩

/-- Small bands: sums, differences and products fit. -/
def SmallB (a b : Int) : Prop := -19000000000000 < a ∧ a ≤ b ∧ b ≤ 19000001000000
theorem SmallB.ok {a b : Int} (h : SmallB a b) : okB a b = true := (ok_iff a b).2 (by unfold SmallB at h; omega)
theorem small_add {a b c d : Int} (h : SmallB a b) (h' : SmallB c d) : (addB a b c d).e = 0 := by
  rw [addB, two_ok h.ok h'.ok, fit_ok]
  unfold SmallB at h h'; rw [ok_iff]; omega
theorem small_sub {a b c d : Int} (h : SmallB a b) (h' : SmallB c d) : (subB a b c d).e = 0 := by
  rw [subB, two_ok h.ok h'.ok, fit_ok]
  unfold SmallB at h h'; rw [ok_iff]; omega
theorem abs_mul {x y : Int} (h1 : -20000000000000 ≤ x) (h2 : x ≤ 20000000000000) (h3 : -20000000000000 ≤ y) (h4 : y ≤ 20000000000000) : -400000000000000000000000000 ≤ x * y ∧ x * y ≤ 400000000000000000000000000 :=
  ⟨box' h1 h2 h3 h4 (by decide) (by decide) (by decide) (by decide), box h1 h2 h3 h4 (by decide) (by decide) (by decide) (by decide)⟩
theorem small_mul {a b c d : Int} (h : SmallB a b) (h' : SmallB c d) : (mulB a b c d).e = 0 := by
  rw [mulB, two_ok h.ok h'.ok]
  unfold SmallB at h h'
  rcases rnd_spec (L := mulL a b c d) (by simp [mulL]) (mul_dL _ _ _ _) with ⟨h1, _⟩ | ⟨_, h2⟩
  · exact h1
  · refine absurd (fun x hx => ?_) h2
    have hE : (0 : Int) < 1000000000000 := by decide
    have hh : ∃ u v, x = (u, v, 1000000000000) ∧ -20000000000000 ≤ u ∧ u ≤ 20000000000000 ∧ -20000000000000 ≤ v ∧ v ≤ 20000000000000 := by
      simp only [mulL, List.mem_cons, List.not_mem_nil, or_false] at hx
      rcases hx with rfl | rfl | rfl | rfl <;> exact ⟨_, _, rfl, by omega, by omega, by omega, by omega⟩
    obtain ⟨u, v, rfl, a1, a2, a3, a4⟩ := hh
    have := abs_mul a1 a2 a3 a4
    exact ⟨(le_flo hE).2 (by simp only; omega), (cei_le hE).2 (by simp only; omega)⟩
theorem div_err {a b c d : Int} (h : SmallB a b) (h' : SmallB c d) : (divB a b c d).e = 0 ∨ (divB a b c d).e = 7 ∨ (divB a b c d).e = 6 := by
  rw [divB, two_ok h.ok h'.ok]
  split
  · exact .inr (.inl rfl)
  · rename_i h0
    rcases rnd_spec (L := divL a b c d) (by simp [divL]) (div_dL h'.2.1 h0) with ⟨h1, _⟩ | ⟨h2, _⟩
    · exact .inl h1
    · rw [h2]; exact .inr (.inr rfl)

/-- The square. -/
theorem abs_pts {a b : Int} (hab : a ≤ b) : ∃ lo hi, lo = max a (max (-b) 0) ∧ hi = max b (-a) ∧ 0 ≤ lo ∧ lo ≤ hi ∧
    (∀ u v, (u = lo ∨ u = hi) → (v = lo ∨ v = hi) → ∃ x y, u * v = x * y ∧ a ≤ x ∧ x ≤ b ∧ a ≤ y ∧ y ≤ b) := by
  refine ⟨_, _, rfl, rfl, by omega, by omega, ?_⟩
  by_cases h1 : 0 ≤ a
  · rw [show max a (max (-b) 0) = a by omega, show max b (-a) = b by omega]
    intro u v hu hv
    exact ⟨u, v, rfl, by omega, by omega, by omega, by omega⟩
  · by_cases h2 : b ≤ 0
    · rw [show max a (max (-b) 0) = -b by omega, show max b (-a) = -a by omega]
      intro u v hu hv
      exact ⟨-u, -v, (Int.neg_mul_neg u v).symm, by omega, by omega, by omega, by omega⟩
    · rw [show max a (max (-b) 0) = 0 by omega]
      intro u v hu hv
      rcases hu with rfl | rfl
      · exact ⟨0, 0, by rw [Int.zero_mul, Int.zero_mul], by omega, by omega, by omega, by omega⟩
      · rcases hv with rfl | rfl
        · exact ⟨0, 0, by rw [Int.mul_zero, Int.zero_mul], by omega, by omega, by omega, by omega⟩
        · by_cases h3 : -a ≤ b
          · rw [show max b (-a) = b by omega]
            exact ⟨b, b, rfl, by omega, by omega, by omega, by omega⟩
          · rw [show max b (-a) = -a by omega]
            exact ⟨a, a, Int.neg_mul_neg a a, by omega, by omega, by omega, by omega⟩

theorem sqr_law {a b i : Int} (h : SmallB a b) (h1 : a ≤ i) (h2 : i ≤ b) :
    (sqrB a b).e = 0 ∧ hasB (sqrB a b).lo (sqrB a b).hi (mkRat i 1000000000000 * mkRat i 1000000000000) = true ∧ inB (sqrB a b) (mulB a b a b) := by
  have ho := h.ok
  have hm := small_mul h h
  have hE : (0 : Int) < 1000000000000 := by decide
  obtain ⟨lo, hi, elo, ehi, p0, p1, pts⟩ := abs_pts h.2.1
  have hS : SmallB lo hi := by unfold SmallB at h ⊢; omega
  have habs : absB a b = ⟨lo, hi, 0⟩ := by
    rw [absB, one_ok ho, ← elo, ← ehi, fit_ok hS.ok]
  have hsq : sqrB a b = mulB lo hi lo hi := by rw [sqrB, habs]; rfl
  have hs := small_mul hS hS
  rw [hsq]
  refine ⟨hs, ?_, ?_⟩
  · have hin : lo ≤ i.natAbs ∧ (i.natAbs : Int) ≤ hi := by omega
    have hh := held_mul hS.ok hS.ok hin.1 hin.2 hin.1 hin.2 hs
    rw [mulB, two_ok hS.ok hS.ok] at hs ⊢
    rcases rnd_spec (L := mulL lo hi lo hi) (by simp [mulL]) (mul_dL _ _ _ _) with ⟨_, _, _, r4, r5⟩ | ⟨e, _⟩
    · have q1 := (mul_point hin.1 hin.2 hin.1 hin.2).1 ((r4 _).1 (Int.le_refl _))
      have q2 := (mul_point hin.1 hin.2 hin.1 hin.2).2 ((r5 _).1 (Int.le_refl _))
      have e2 : (i.natAbs : Int) * i.natAbs = i * i := by rw [← Int.natCast_mul, Int.natAbs_mul_self]
      rw [e2] at q1 q2
      exact has_mul q1 q2
    · rw [e] at hs; cases hs
  · rw [mulB, mulB, two_ok ho ho, two_ok hS.ok hS.ok] at *
    refine (rnd_shrink (by simp [mulL]) (by simp [mulL]) (mul_dL _ _ _ _) (mul_dL _ _ _ _) ?_ ?_ hm).2
    · intro x hx k hk
      have hh : ∃ u v, x = (u, v, 1000000000000) ∧ (u = lo ∨ u = hi) ∧ (v = lo ∨ v = hi) := by
        simp only [mulL, List.mem_cons, List.not_mem_nil, or_false] at hx
        rcases hx with rfl | rfl | rfl | rfl <;> exact ⟨_, _, rfl, by simp, by simp⟩
      obtain ⟨u, v, rfl, hu, hv⟩ := hh
      obtain ⟨y, z, e, a1, a2, a3, a4⟩ := pts u v hu hv
      have q := (mul_point a1 a2 a3 a4).1 hk
      rw [← e] at q
      exact (le_flo hE).2 q
    · intro x hx k hk
      have hh : ∃ u v, x = (u, v, 1000000000000) ∧ (u = lo ∨ u = hi) ∧ (v = lo ∨ v = hi) := by
        simp only [mulL, List.mem_cons, List.not_mem_nil, or_false] at hx
        rcases hx with rfl | rfl | rfl | rfl <;> exact ⟨_, _, rfl, by simp, by simp⟩
      obtain ⟨u, v, rfl, hu, hv⟩ := hh
      obtain ⟨y, z, e, a1, a2, a3, a4⟩ := pts u v hu hv
      have q := (mul_point a1 a2 a3 a4).2 hk
      rw [← e] at q
      exact (cei_le hE).2 q

end Go.Proofs.YtkajibniibjblaaGreatDoor
