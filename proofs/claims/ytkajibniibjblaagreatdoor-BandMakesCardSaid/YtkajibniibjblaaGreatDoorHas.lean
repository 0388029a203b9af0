/-
  band: Has, at valid bands and fractions; results of operations are valid bands.
  band: Low, High at valid bands.
  The laws of bands around fractions: plain.
-/
import Derived.Test.YtkajibniibjblaaGreatDoorFracB
import Derived.Test.YtkajibniibjblaaGreatDoorBand15
import Derived.Test.YtkajibniibjblaaGreatDoorBandLaws
import Derived.Deep.RegionWith
namespace Go.Proofs.YtkajibniibjblaaGreatDoor
open Go.RowKit
set_option maxRecDepth 100000

theorem unit_add (i j : Int) : mkRat i 1000000000000 + mkRat j 1000000000000 = mkRat (i + j) 1000000000000 := by
  rw [Rat.mkRat_eq_div, Rat.mkRat_eq_div, Rat.mkRat_eq_div, Rat.intCast_add]; grind
theorem unit_sub (i j : Int) : mkRat i 1000000000000 - mkRat j 1000000000000 = mkRat (i - j) 1000000000000 := by
  rw [Rat.mkRat_eq_div, Rat.mkRat_eq_div, Rat.mkRat_eq_div, Rat.intCast_sub]; grind
theorem unit_mul2 (i j : Int) : mkRat i 1000000000000 * mkRat j 1000000000000 = mkRat (i * j) 1000000000000000000000000 := by
  rw [Rat.mkRat_mul_mkRat]
theorem unit_div (i j : Int) (hj : j ≠ 0) : mkRat i 1000000000000 / mkRat j 1000000000000 = mkRat (i * j.sign) j.natAbs := by
  have hj' : (j : Rat) ≠ 0 := fun h => hj (Rat.intCast_inj.1 (by rw [h]; rfl))
  rw [Rat.mkRat_eq_div, Rat.mkRat_eq_div, Rat.mkRat_eq_div, Rat.intCast_mul]
  rcases Int.lt_or_gt_of_ne hj with h | h
  · rw [Int.sign_eq_neg_one_of_neg h]
    have : ((j.natAbs : Nat) : Rat) = -(j : Rat) := by
      have e : ((j.natAbs : Nat) : Int) = -j := by omega
      rw [← Rat.intCast_natCast, e, Rat.intCast_neg]
    rw [this]
    have : ((-1 : Int) : Rat) = -1 := rfl
    rw [this]
    grind
  · rw [Int.sign_eq_one_of_pos h]
    have : ((j.natAbs : Nat) : Rat) = (j : Rat) := by
      have e : ((j.natAbs : Nat) : Int) = j := by omega
      rw [← Rat.intCast_natCast, e]
    rw [this]
    have : ((1 : Int) : Rat) = 1 := rfl
    rw [this]
    grind
theorem unitsF_unit (i : Int) : unitsF (mkRat i 1000000000000) = i := by
  rw [unitsF, show mkRat i 1000000000000 * ((1000000000000 : Int) : Rat) = (i : Rat) from unit_mul i]; show i / ((1 : Nat) : Int) = i; simp
theorem mk_zero_iff (n : Int) : (mkRat n 1000000000000).num = 0 ↔ n = 0 := by
  rw [Rat.num_eq_zero]
  constructor
  · intro h
    have u := unit_mul n
    rw [h, Rat.zero_mul] at u
    exact Rat.intCast_inj.1 (by rw [← u]; rfl)
  · rintro rfl; rfl
/-- The points of small bands. -/
def SmallI (i : Int) : Prop := -20000000000000 ≤ i ∧ i ≤ 20000000000000
theorem around_unit {i : Int} (h : SmallI i) : aroundB (mkRat i 1000000000000) = ⟨i, i, 0⟩ := by
  unfold SmallI at h
  have hu := unitsF_unit i
  rw [aroundB, hu, if_pos (by omega), show mkRat i 1000000000000 * ((1000000000000 : Int) : Rat) = (i : Rat) from unit_mul i, if_pos rfl, fit_ok ((ok_iff i i).2 (by omega))]
theorem fits_smI {i : Int} (h : SmallI i) : fits i = true := by
  unfold SmallI at h
  exact fits_i64 (by omega) (by omega)
theorem pow28 : (10 : Nat) ^ 28 = 10000000000000000000000000000 := by decide
theorem small_lt {x : Int} (h0 : -400000000000000000000000000 ≤ x) (h1 : x ≤ 400000000000000000000000000) : x.natAbs < 10 ^ 28 := by
  rw [pow28]; omega
theorem den_lt {d : Nat} (h : d ≤ 1000000000000000000000000) : d < 10 ^ 28 := by
  rw [pow28]; omega
theorem fitsQ_unit {i : Int} (h : SmallI i) : fitsQ (mkRat i 1000000000000) = true := by
  unfold SmallI at h
  exact fitsQ_mk (k := 28) (by decide) (by decide) (by decide) (small_lt (by omega) (by omega)) (den_lt (by decide))
theorem fitsQ_add {i j : Int} (h : SmallI i) (h' : SmallI j) : fitsQ (mkRat i 1000000000000 + mkRat j 1000000000000) = true := by
  unfold SmallI at h h'
  rw [unit_add]
  exact fitsQ_mk (k := 28) (by decide) (by decide) (by decide) (small_lt (by omega) (by omega)) (den_lt (by decide))
theorem fitsQ_sub {i j : Int} (h : SmallI i) (h' : SmallI j) : fitsQ (mkRat i 1000000000000 - mkRat j 1000000000000) = true := by
  unfold SmallI at h h'
  rw [unit_sub]
  exact fitsQ_mk (k := 28) (by decide) (by decide) (by decide) (small_lt (by omega) (by omega)) (den_lt (by decide))
theorem fitsQ_mul {i j : Int} (h : SmallI i) (h' : SmallI j) : fitsQ (mkRat i 1000000000000 * mkRat j 1000000000000) = true := by
  have hm := abs_mul h.1 h.2 h'.1 h'.2
  rw [unit_mul2]
  exact fitsQ_mk (k := 28) (by decide) (by decide) (by decide) (small_lt hm.1 hm.2) (den_lt (Nat.le_refl _))
theorem fitsQ_div {i j : Int} (h : SmallI i) (h' : SmallI j) (hj : j ≠ 0) : fitsQ (mkRat i 1000000000000 / mkRat j 1000000000000) = true := by
  unfold SmallI at h h'
  rw [unit_div i j hj]
  refine fitsQ_mk (k := 28) (by decide) (by decide) (by omega) ?_ (den_lt (by omega))
  rcases Int.lt_or_gt_of_ne hj with h1 | h1
  · rw [Int.sign_eq_neg_one_of_neg h1]; exact small_lt (by omega) (by omega)
  · rw [Int.sign_eq_one_of_pos h1]; exact small_lt (by omega) (by omega)

theorem fit_e {x y : Int} (h : (fitB x y).e = 0) : okB (fitB x y).lo (fitB x y).hi = true := by
  rcases fit_cases x y with ⟨h1, e⟩ | ⟨_, e⟩
  · rw [e]; exact h1
  · rw [e] at h; cases h
theorem two_e {a b c d : Int} {r : BR} (hr : r.e = 0 → okB r.lo r.hi = true) (h : (twoB a b c d r).e = 0) : okB (twoB a b c d r).lo (twoB a b c d r).hi = true := by
  rw [twoB] at h ⊢
  split
  · rename_i h1; rw [if_pos h1] at h; exact hr h
  · rename_i h1; rw [if_neg h1] at h; cases h
theorem add_e {a b c d : Int} (h : (addB a b c d).e = 0) : okB (addB a b c d).lo (addB a b c d).hi = true := two_e fit_e h
theorem sub_e {a b c d : Int} (h : (subB a b c d).e = 0) : okB (subB a b c d).lo (subB a b c d).hi = true := two_e fit_e h
theorem mul_e {a b c d : Int} (h : (mulB a b c d).e = 0) : okB (mulB a b c d).lo (mulB a b c d).hi = true := two_e fit_e h
theorem div_e {a b c d : Int} (h : (divB a b c d).e = 0) : okB (divB a b c d).lo (divB a b c d).hi = true := by
  refine two_e (fun h => ?_) h
  split
  · rename_i h1; rw [if_pos h1] at h; cases h
  · rename_i h1; rw [if_neg h1] at h; exact fit_e h
theorem sqr_e {a b : Int} (h : (sqrB a b).e = 0) : okB (sqrB a b).lo (sqrB a b).hi = true := by
  rw [sqrB] at h ⊢
  split
  · rename_i h1; rw [if_pos h1] at h; exact mul_e h
  · rename_i h1; rw [if_neg h1] at h; exact absurd h h1
/-- HASANY -/
theorem sign_ge (Q x : Rat) : 0 ≤ (Q - x).num.sign ↔ x ≤ Q := by
  rw [Int.sign_nonneg_iff, Rat.num_nonneg, ← Rat.le_iff_sub_nonneg]
theorem sign_le (Q x : Rat) : (Q - x).num.sign ≤ 0 ↔ Q ≤ x := by
  have h := sign_ge x Q
  have e : (x - Q).num.sign = -(Q - x).num.sign := by
    rw [show x - Q = -(Q - x) by grind, Rat.neg_num, Int.sign_neg]
  rw [e] at h
  rw [← h]
  omega
def RetH (w : World) (b : Bool) (n : Int) : Ending → World → Prop := fun x w' => x = .returned (.tuple #[.bool b, .int .i64 n]) ∧ Below w.heap.size w w'

theorem checkedH1_any (k : Nat) (hk : Enters k) (cap : Array Value) (w : World) (b : Nat) (x y : Int) (T : TypeId) (hb : Hid (Blk w b #[.int .i64 x, .int .i64 y] T)) (n : Bool) (m : Int)
    (hclo : okB x y = true → ∀ w', Below w.heap.size w w' → Calls Tryz.prog k cap w' (RetH w' n m)) :
    Calls Tryz.prog 95 #[.func (.func k) #[] cap, .slice (some ⟨b, 0, none⟩) 1 1] w (RetH w (okB x y && n) (if okB x y then m else 30)) := by
  have hlt : b < w.heap.size := (Array.getElem?_eq_some_iff.1 hb.out).1
  have hW : Below w.heap.size w (w.alloc (.cells #[.int .i64 x, .int .i64 y] 23)) := ((Below.refl w.heap.size w).alloc (Nat.le_refl _) _)
  have o1 := heap_last w (.cells #[.int .i64 x, .int .i64 y] 23)
  have O1 := Lib.hid o1
  clear o1
  have hsz : (w.alloc (.cells #[.int .i64 x, .int .i64 y] 23)).heap.size = w.heap.size + 1 := by simp
  have HSZ := Lib.hid hsz
  clear hsz
  have z0 : w.cell? ⟨b, 0, none⟩ = some (.int .i64 x) := cell_later (w1 := w) hb.out (Below.refl _ _)
  have z1 : w.cell? ⟨b, 1, none⟩ = some (.int .i64 y) := cell_later (w1 := w) hb.out (Below.refl _ _)
  by_cases h : okB x y = true
  · rw [h, Bool.true_and, if_pos rfl]
    have hc : chkB x y = 0 := by rw [chkB, if_pos h]
    have HC := Lib.hid (hclo h)
    clear hclo
    go_enter Tryz.func95, Tryz.ntmps95
    go_wp2
    refine wp_loop_rounds 2 ?_
    rw [rounds_succ]
    go_wp2_with fail
    refine (bcheck_any _ _ _).mono ?_
    rintro e w1 ⟨rfl, hb1⟩
    rw [hc]
    go_wp2
    rw [rounds_succ]
    go_wp2
    rw [hk]
    go_wp2_with fail
    have hW1 := chain hW hb1
    refine (HC.out _ hW1).mono ?_
    rintro e w2 ⟨rfl, hb2⟩
    have hW2 := chain hW1 hb2
    go_wp2
    go_ret2
    exact ⟨rfl, hW2⟩
  · have h' : okB x y = false := by simpa using h
    rw [h', Bool.false_and, if_neg (by decide)]
    have hc : chkB x y = 30 := by rw [chkB, if_neg h]
    clear hclo
    go_enter Tryz.func95, Tryz.ntmps95
    go_wp2
    refine wp_loop_rounds 1 ?_
    rw [rounds_succ]
    go_wp2_with fail
    refine (bcheck_any _ _ _).mono ?_
    rintro e w1 ⟨rfl, hb1⟩
    rw [hc]
    have hW1 := chain hW hb1
    go_wp2
    go_ret2
    exact ⟨rfl, hW1⟩

set_option maxHeartbeats 4000000 in
theorem hasclo_any (w : World) (henv : Env2 w) (pa : Nat) (Ta : TypeId) (N D : ByteArray) (q : Rat) (hpa : Hid (Blk w pa #[.string N, .string D] Ta)) (h : VQ N D q)
    (pb : Nat) (Tb : TypeId) (lo hi : Int) (hpb : Hid (Blk w pb #[.int .i64 lo, .int .i64 hi] Tb)) (h0 : -1000000000000000000 ≤ lo) (h1 : lo ≤ 1000000000000000000) (h2 : -1000000000000000000 ≤ hi) (h3 : hi ≤ 1000000000000000000) :
    Calls Tryz.prog 96 #[.pointer (some ⟨pa, 0, none⟩), .pointer (some ⟨pb, 0, none⟩)] w (RetH w (hasB lo hi q) 0) := by
  obtain ⟨Q, hQ⟩ : ∃ Q, q * ((1000000000000 : Int) : Rat) = Q := ⟨_, rfl⟩
  have HQ := Lib.hid hQ
  have HB : Hid (hasB lo hi q = (decide (0 ≤ (Q - (lo : Rat)).num.sign) && decide ((Q - (hi : Rat)).num.sign ≤ 0))) := by
    show _ = _
    rw [Bool.eq_iff_iff, Bool.and_eq_true, decide_eq_true_iff, decide_eq_true_iff, sign_ge, sign_le, has_iff, ← hQ]
    exact Iff.rfl
  clear hQ
  have HV := Lib.hid h
  clear h
  have c0 : w.cell? ⟨pa, 0, none⟩ = some (.string N) := cell_later (w1 := w) hpa.out (Below.refl _ _)
  have c1 : w.cell? ⟨pa, 1, none⟩ = some (.string D) := cell_later (w1 := w) hpa.out (Below.refl _ _)
  have HE := Lib.hid henv
  clear henv
  go_enter Tryz.func96, Tryz.ntmps96
  go_wp2_with fail
  refine (fcheck_ok _ HE.out.toEnv N D q HV.out).mono ?_
  rintro e w1 ⟨rfl, hb1⟩
  have x1 := cell_later (j := 0) hpa.out hb1
  have x2 := cell_later (j := 1) hpa.out hb1
  simp at x1 x2
  go_wp2_with fail
  refine (readq_any _ N D q HV.out).mono ?_
  rintro e w2 ⟨b2, A2, l2, c2, B2, m2, d2, rfl, hs2, hA2, hB2, hb2, _, _⟩
  unfold rv
  go_wp2_with fail
  refine (fromq_any _ 1000000000000 (by decide) (by decide)).mono ?_
  rintro e w3 ⟨b3, A3, l3, c3, B3, m3, d3, rfl, hs3, hA3, hB3, hb3, _, _⟩
  unfold rv
  go_wp2_with fail
  refine (timesq_any (La := 40) (Lb := 2) _ _ _ _ _ _ _ _ q hs2 (hA2.below hb3) (hB2.below hb3) _ _ _ _ _ _ _ _ hs3 hA3 hB3 (by decide)).mono ?_
  rintro e w4 ⟨b4, A4, l4, c4, B4, m4, d4, rfl, hs4, hA4, hB4, hb4, _, _⟩
  rw [HQ.out] at hs4 hA4 hB4
  unfold rv
  have O4 := Lib.hid (heap_last w4 (.cells #[.bool b4, .slice A4 l4 c4, .slice B4 m4 d4] 118))
  have hWa : Below w4.heap.size w4 (w4.alloc (.cells #[.bool b4, .slice A4 l4 c4, .slice B4 m4 d4] 118)) := (Below.refl _ _).alloc (Nat.le_refl _) _
  have hc4 := chain (chain (chain hb1 hb2) hb3) hb4
  have hc4a := chain hc4 hWa
  have hA5 := hA4.below hWa
  have hB5 := hB4.below hWa
  clear hA2 hB2 hA3 hB3 hA4 hB4 hs2 hs3 x1 x2 c0 c1
  have HO : Hid (∀ w', Below (w4.alloc (.cells #[.bool b4, .slice A4 l4 c4, .slice B4 m4 d4] 118)).heap.size (w4.alloc (.cells #[.bool b4, .slice A4 l4 c4, .slice B4 m4 d4] 118)) w' → w'.cell? ⟨w4.heap.size, 0, none⟩ = some (.bool b4) ∧ w'.cell? ⟨w4.heap.size, 1, none⟩ = some (.slice A4 l4 c4) ∧ w'.cell? ⟨w4.heap.size, 2, none⟩ = some (.slice B4 m4 d4) ∧ w'.cell? ⟨pb, 0, none⟩ = some (.int .i64 lo) ∧ w'.cell? ⟨pb, 1, none⟩ = some (.int .i64 hi)) := fun w' h => ⟨cell_later O4.out h, cell_later O4.out h, cell_later O4.out h, cell_later hpb.out (chain hc4a h), cell_later hpb.out (chain hc4a h)⟩
  have hd0 : Below (w4.alloc (.cells #[.bool b4, .slice A4 l4 c4, .slice B4 m4 d4] 118)).heap.size (w4.alloc (.cells #[.bool b4, .slice A4 l4 c4, .slice B4 m4 d4] 118)) (w4.alloc (.cells #[.bool b4, .slice A4 l4 c4, .slice B4 m4 d4] 118)).drew := (Below.refl _ _).drew
  obtain ⟨sg, hsg⟩ : ∃ sg, (Q - (lo : Rat)).num.sign = sg := ⟨_, rfl⟩
  obtain ⟨sh, hsh⟩ : ∃ sh, (Q - (hi : Rat)).num.sign = sh := ⟨_, rfl⟩
  rw [hsg, hsh] at HB
  have HSG := Lib.hid hsg
  have HSH := Lib.hid hsh
  clear hsg hsh
  have hsg3 : sg = -1 ∨ sg = 0 ∨ sg = 1 := by
    rw [← HSG.out]
    rcases Int.lt_trichotomy (Q - (lo : Rat)).num 0 with h | h | h
    · exact .inl (Int.sign_eq_neg_one_of_neg h)
    · exact .inr (.inl (by rw [h]; rfl))
    · exact .inr (.inr (Int.sign_eq_one_of_pos h))
  rcases hsg3 with rfl | rfl | rfl
  · have HR : Hid (hasB lo hi q = false) := by show _ = _; rw [HB.out]; simp
    clear HB
    go_wp2_with fail
    obtain ⟨k1, k2, k3, k4, k5⟩ := HO.out _ hd0
    first
    | go_region_with (first
        | (go_at_call 87; (fail_if_success (have hq := hA8)); (refine (fromq_any _ lo (by omega) (by omega)).mono ?_); rintro e w8 ⟨b8, A8, l8, c8, B8, m8, d8, rfl, hs8, hA8, hB8, hb8, _, _⟩; unfold rv; have hd1 := chain hd0 hb8; obtain ⟨k6, k7, k8, k9, k10⟩ := HO.out _ hd1)
        | (go_at_call 91; (fail_if_success (have hq := hd2)); (refine (orderq_any (La := 42) (Lb := 2) _ _ _ _ _ _ _ _ Q hs4 (hA5.below hd1) (hB5.below hd1) _ _ _ _ _ _ _ (lo : Rat) hs8 hA8 hB8 (by decide)).mono ?_); rintro e w9 ⟨rfl, hb9⟩; rw [HSG.out]; have hd2 := chain hd1 hb9; obtain ⟨k11, k12, k13, k14, k15⟩ := HO.out _ hd2))
    | fail
    all_goals (
      go_wp2
      go_ret2
      exact ⟨by rw [HR.out]; rfl, chain hc4a hd2⟩)
  · have HR : Hid (hasB lo hi q = decide (sh ≤ 0)) := by show _ = _; rw [HB.out]; simp
    clear HB
    go_wp2_with fail
    go_region_held3 (fun w' => w'.cell? ⟨w4.heap.size, 0, none⟩ = some (.bool b4) ∧ w'.cell? ⟨w4.heap.size, 1, none⟩ = some (.slice A4 l4 c4) ∧ w'.cell? ⟨w4.heap.size, 2, none⟩ = some (.slice B4 m4 d4) ∧ w'.cell? ⟨pb, 0, none⟩ = some (.int .i64 lo) ∧ w'.cell? ⟨pb, 1, none⟩ = some (.int .i64 hi))
      (first | with_reducible exact HO.out _ hd0 | with_reducible exact HO.out _ hd1 | with_reducible exact HO.out _ hd2 | with_reducible exact HO.out _ hd3 | with_reducible exact HO.out _ hd4)
      (first
        | (go_at_call 87; (fail_if_success (have hq := hA8)); (refine (fromq_any _ lo (by omega) (by omega)).mono ?_); rintro e w8 ⟨b8, A8, l8, c8, B8, m8, d8, rfl, hs8, hA8, hB8, hb8, _, _⟩; unfold rv; have hd1 := chain hd0 hb8)
        | (go_at_call 91; (fail_if_success (have hq := hd2)); (refine (orderq_any (La := 42) (Lb := 2) _ _ _ _ _ _ _ _ Q hs4 (hA5.below hd1) (hB5.below hd1) _ _ _ _ _ _ _ (lo : Rat) hs8 hA8 hB8 (by decide)).mono ?_); rintro e w9 ⟨rfl, hb9⟩; rw [HSG.out]; have hd2 := chain hd1 hb9)
        | (go_at_call 87; (refine (fromq_any _ hi (by omega) (by omega)).mono ?_); rintro e w10 ⟨b10, A10, l10, c10, B10, m10, d10, rfl, hs10, hA10, hB10, hb10, _, _⟩; unfold rv; have hd3 := chain hd2 hb10)
        | (go_at_call 91; (refine (orderq_any (La := 42) (Lb := 2) _ _ _ _ _ _ _ _ Q hs4 (hA5.below hd3) (hB5.below hd3) _ _ _ _ _ _ _ (hi : Rat) hs10 hA10 hB10 (by decide)).mono ?_); rintro e w11 ⟨rfl, hb11⟩; rw [HSH.out]; have hd4 := chain hd3 hb11))
    go_wp2
    go_ret2
    exact ⟨by rw [HR.out]; rfl, chain hc4a hd4⟩
  · have HR : Hid (hasB lo hi q = decide (sh ≤ 0)) := by show _ = _; rw [HB.out]; simp
    clear HB
    go_wp2_with fail
    go_region_held3 (fun w' => w'.cell? ⟨w4.heap.size, 0, none⟩ = some (.bool b4) ∧ w'.cell? ⟨w4.heap.size, 1, none⟩ = some (.slice A4 l4 c4) ∧ w'.cell? ⟨w4.heap.size, 2, none⟩ = some (.slice B4 m4 d4) ∧ w'.cell? ⟨pb, 0, none⟩ = some (.int .i64 lo) ∧ w'.cell? ⟨pb, 1, none⟩ = some (.int .i64 hi))
      (first | with_reducible exact HO.out _ hd0 | with_reducible exact HO.out _ hd1 | with_reducible exact HO.out _ hd2 | with_reducible exact HO.out _ hd3 | with_reducible exact HO.out _ hd4)
      (first
        | (go_at_call 87; (fail_if_success (have hq := hA8)); (refine (fromq_any _ lo (by omega) (by omega)).mono ?_); rintro e w8 ⟨b8, A8, l8, c8, B8, m8, d8, rfl, hs8, hA8, hB8, hb8, _, _⟩; unfold rv; have hd1 := chain hd0 hb8)
        | (go_at_call 91; (fail_if_success (have hq := hd2)); (refine (orderq_any (La := 42) (Lb := 2) _ _ _ _ _ _ _ _ Q hs4 (hA5.below hd1) (hB5.below hd1) _ _ _ _ _ _ _ (lo : Rat) hs8 hA8 hB8 (by decide)).mono ?_); rintro e w9 ⟨rfl, hb9⟩; rw [HSG.out]; have hd2 := chain hd1 hb9)
        | (go_at_call 87; (refine (fromq_any _ hi (by omega) (by omega)).mono ?_); rintro e w10 ⟨b10, A10, l10, c10, B10, m10, d10, rfl, hs10, hA10, hB10, hb10, _, _⟩; unfold rv; have hd3 := chain hd2 hb10)
        | (go_at_call 91; (refine (orderq_any (La := 42) (Lb := 2) _ _ _ _ _ _ _ _ Q hs4 (hA5.below hd3) (hB5.below hd3) _ _ _ _ _ _ _ (hi : Rat) hs10 hA10 hB10 (by decide)).mono ?_); rintro e w11 ⟨rfl, hb11⟩; rw [HSH.out]; have hd4 := chain hd3 hb11))
    go_wp2
    go_ret2
    exact ⟨by rw [HR.out]; rfl, chain hc4a hd4⟩
theorem has_any (w : World) (henv : Env2 w) (lo hi : Int) (N D : ByteArray) (q : Rat) (h : VQ N D q) (hok : okB lo hi = true) :
    Calls Tryz.prog 38 #[bandV lo hi, .agg #[.string N, .string D]] w (RetH w (hasB lo hi q) 0) := by
  have hmf : ∀ (fn : Fn) (first cap : Array Value) (w : World), (Instr.makeFunc fn first cap).run Tryz.prog w = .ok (.func fn first cap) w := fun _ _ _ _ => rfl
  obtain ⟨n, hn⟩ : ∃ n, hasB lo hi q = n := ⟨_, rfl⟩
  rw [hn]
  have HN := Lib.hid hn
  clear hn
  have HK := Lib.hid hok
  have hW : Below w.heap.size w (((w.alloc (.cells #[.int .i64 lo, .int .i64 hi] 23)).alloc (.cells #[.string N, .string D] 51)).alloc (.cells #[.int .i64 lo, .int .i64 hi] 23)) := ((((Below.refl w.heap.size w).alloc (Nat.le_refl _) _).alloc (by simp <;> omega) _).alloc (by simp <;> omega) _)
  have o1 := heap_more (heap_more (heap_last w (.cells #[.int .i64 lo, .int .i64 hi] 23)) (.cells #[.string N, .string D] 51)) (.cells #[.int .i64 lo, .int .i64 hi] 23)
  have O1 := Lib.hid o1
  clear o1
  have o2 := heap_more (heap_last (w.alloc (.cells #[.int .i64 lo, .int .i64 hi] 23)) (.cells #[.string N, .string D] 51)) (.cells #[.int .i64 lo, .int .i64 hi] 23)
  rw [show (w.alloc (.cells #[.int .i64 lo, .int .i64 hi] 23)).heap.size = w.heap.size + 1 by simp] at o2
  have O2 := Lib.hid o2
  clear o2
  have o3 := heap_last ((w.alloc (.cells #[.int .i64 lo, .int .i64 hi] 23)).alloc (.cells #[.string N, .string D] 51)) (.cells #[.int .i64 lo, .int .i64 hi] 23)
  rw [show ((w.alloc (.cells #[.int .i64 lo, .int .i64 hi] 23)).alloc (.cells #[.string N, .string D] 51)).heap.size = w.heap.size + 1 + 1 by simp] at o3
  have O3 := Lib.hid o3
  clear o3
  have hsz : (((w.alloc (.cells #[.int .i64 lo, .int .i64 hi] 23)).alloc (.cells #[.string N, .string D] 51)).alloc (.cells #[.int .i64 lo, .int .i64 hi] 23)).heap.size = w.heap.size + 1 + 1 + 1 := by simp
  have HSZ := Lib.hid hsz
  clear hsz
  have HE := Lib.hid (henv.below hW)
  clear henv hok
  go_enter Tryz.func38, Tryz.ntmps38
  go_wp2_with fail
  refine (checkedH1_any 96 (fun _ _ => by kernel_rfl) #[.pointer (some ⟨w.heap.size + 1, 0, none⟩), .pointer (some ⟨w.heap.size, 0, none⟩)] _ (w.heap.size + 1 + 1) lo hi 23 (Lib.hid O3.out) (hasB lo hi q) 0 (fun hk w' hb' => hasclo_any w' (HE.out.below hb') _ _ N D q (Lib.hid (blk_later O2.out hb')) h _ _ lo hi (Lib.hid (blk_later O1.out hb')) (by have := (ok_iff lo hi).1 hk; omega) (by have := (ok_iff lo hi).1 hk; omega) (by have := (ok_iff lo hi).1 hk; omega) (by have := (ok_iff lo hi).1 hk; omega))).mono ?_
  rintro e w1 ⟨rfl, hb1⟩
  rw [HN.out, HK.out]
  have hW1 := chain hW hb1
  go_wp2
  go_ret2
  exact ⟨rfl, hW1⟩
end Go.Proofs.YtkajibniibjblaaGreatDoor

namespace Go.Proofs.YtkajibniibjblaaGreatDoor
open Go.RowKit
set_option maxRecDepth 100000

theorem checkedF1_any (k : Nat) (hk : Enters k) (cap : Array Value) (w : World) (b : Nat) (x y : Int) (T : TypeId) (hb : Hid (Blk w b #[.int .i64 x, .int .i64 y] T)) (q : Rat) (h : okB x y = true)
    (hclo : ∀ w', Below w.heap.size w w' → Calls Tryz.prog k cap w' (RetF w' q)) :
    Calls Tryz.prog 99 #[.func (.func k) #[] cap, .slice (some ⟨b, 0, none⟩) 1 1] w (RetF w q) := by
  have hlt : b < w.heap.size := (Array.getElem?_eq_some_iff.1 hb.out).1
  obtain ⟨S, D, hT⟩ := toldQ_agg q
  have HT := Lib.hid hT
  obtain ⟨te, hte⟩ : ∃ te, toldQE q = te := ⟨_, rfl⟩
  have HTE := Lib.hid hte
  clear hT hte
  have hW : Below w.heap.size w (((w.alloc (.cells #[.string ⟨#[]⟩, .string ⟨#[]⟩] 51)).alloc (.cells #[.string ⟨#[]⟩, .string ⟨#[]⟩] 51)).alloc (.cells #[.int .i64 x, .int .i64 y] 23)) := ((((Below.refl w.heap.size w).alloc (Nat.le_refl _) _).alloc (by simp <;> omega) _).alloc (by simp <;> omega) _)
  have o1 := heap_more (heap_more (heap_last w (.cells #[.string ⟨#[]⟩, .string ⟨#[]⟩] 51)) (.cells #[.string ⟨#[]⟩, .string ⟨#[]⟩] 51)) (.cells #[.int .i64 x, .int .i64 y] 23)
  have O1 := Lib.hid o1
  clear o1
  have o2 := heap_more (heap_last (w.alloc (.cells #[.string ⟨#[]⟩, .string ⟨#[]⟩] 51)) (.cells #[.string ⟨#[]⟩, .string ⟨#[]⟩] 51)) (.cells #[.int .i64 x, .int .i64 y] 23)
  rw [show (w.alloc (.cells #[.string ⟨#[]⟩, .string ⟨#[]⟩] 51)).heap.size = w.heap.size + 1 by simp] at o2
  have O2 := Lib.hid o2
  clear o2
  have o3 := heap_last ((w.alloc (.cells #[.string ⟨#[]⟩, .string ⟨#[]⟩] 51)).alloc (.cells #[.string ⟨#[]⟩, .string ⟨#[]⟩] 51)) (.cells #[.int .i64 x, .int .i64 y] 23)
  rw [show ((w.alloc (.cells #[.string ⟨#[]⟩, .string ⟨#[]⟩] 51)).alloc (.cells #[.string ⟨#[]⟩, .string ⟨#[]⟩] 51)).heap.size = w.heap.size + 1 + 1 by simp] at o3
  have O3 := Lib.hid o3
  clear o3
  have hsz : (((w.alloc (.cells #[.string ⟨#[]⟩, .string ⟨#[]⟩] 51)).alloc (.cells #[.string ⟨#[]⟩, .string ⟨#[]⟩] 51)).alloc (.cells #[.int .i64 x, .int .i64 y] 23)).heap.size = w.heap.size + 1 + 1 + 1 := by simp
  have HSZ := Lib.hid hsz
  clear hsz
  have z0 : ((w.alloc (.cells #[.string ⟨#[]⟩, .string ⟨#[]⟩] 51)).alloc (.cells #[.string ⟨#[]⟩, .string ⟨#[]⟩] 51)).cell? ⟨b, 0, none⟩ = some (.int .i64 x) := cell_later (w1 := w) hb.out (((Below.refl _ _).alloc (Nat.le_refl _) _).alloc (by simp <;> omega) _)
  have z1 : ((w.alloc (.cells #[.string ⟨#[]⟩, .string ⟨#[]⟩] 51)).alloc (.cells #[.string ⟨#[]⟩, .string ⟨#[]⟩] 51)).cell? ⟨b, 1, none⟩ = some (.int .i64 y) := cell_later (w1 := w) hb.out (((Below.refl _ _).alloc (Nat.le_refl _) _).alloc (by simp <;> omega) _)
  have hc : chkB x y = 0 := by rw [chkB, if_pos h]
  have HC := Lib.hid hclo
  clear hclo
  go_enter Tryz.func99, Tryz.ntmps99
  go_wp2
  refine wp_loop_rounds 2 ?_
  rw [rounds_succ]
  go_wp2_with fail
  refine (bcheck_any _ _ _).mono ?_
  rintro e w1 ⟨rfl, hb1⟩
  rw [hc]
  go_wp2
  rw [rounds_succ]
  go_wp2
  rw [hk]
  go_wp2_with fail
  have hW1 := chain hW hb1
  refine (HC.out _ hW1).mono ?_
  rintro e w2 ⟨rfl, hb2⟩
  rw [HT.out, HTE.out]
  have hb12 := chain hb1 hb2
  have hW2 := chain hW1 hb2
  have hs := hW2.size
  have hs3 := hb12.size
  simp at hs3
  have y3 := cell_later (j := 0) O1.out hb12
  have y4 := cell_later (j := 1) O1.out hb12
  have g3 := frozen_later O1.out hb12 0
  have g4 := frozen_later O1.out hb12 1
  simp at y3 y4
  go_wp2
  refine bodyPost_ret (v := .tuple #[.agg #[.string S, .string D], .int .i64 te]) (by simp [results, Tryz.results99, go_sem, y3, y4]) rfl ⟨by rw [HT.out, HTE.out], ?_⟩
  repeat (first | with_reducible exact hW2 | (with_reducible refine Below.setCell ?_ (by first | omega | (simp <;> omega)) _) | (with_reducible refine Below.alloc ?_ (by first | omega | (simp <;> omega)) _))

theorem lowclo_any (w : World) (henv : Env w) (pb : Nat) (Tb : TypeId) (lo hi : Int) (hpb : Hid (Blk w pb #[.int .i64 lo, .int .i64 hi] Tb)) (h0 : -9223372036854775808 ≤ lo) (h1 : lo < 9223372036854775808) :
    Calls Tryz.prog 100 #[.pointer (some ⟨pb, 0, none⟩)] w (RetF w (mkRat lo 1000000000000)) := by
  obtain ⟨S, D, hT⟩ := toldQ_agg (mkRat lo 1000000000000)
  have HT := Lib.hid hT
  obtain ⟨te, hte⟩ : ∃ te, toldQE (mkRat lo 1000000000000) = te := ⟨_, rfl⟩
  have HTE := Lib.hid hte
  clear hT hte
  have hlt : pb < w.heap.size := (Array.getElem?_eq_some_iff.1 hpb.out).1
  have hW : Below w.heap.size w (w.alloc (.cells #[.string ⟨#[]⟩, .string ⟨#[]⟩] 51)) := ((Below.refl w.heap.size w).alloc (Nat.le_refl _) _)
  have o1 := heap_last w (.cells #[.string ⟨#[]⟩, .string ⟨#[]⟩] 51)
  have O1 := Lib.hid o1
  clear o1
  have hsz : (w.alloc (.cells #[.string ⟨#[]⟩, .string ⟨#[]⟩] 51)).heap.size = w.heap.size + 1 := by simp
  have HSZ := Lib.hid hsz
  clear hsz
  have HE := Lib.hid (henv.below hW)
  clear henv
  have c0 := cell_later (j := 0) hpb.out hW
  have c1 : w.cell? ⟨pb, 0, none⟩ = some (.int .i64 lo) := cell_later (w1 := w) hpb.out (Below.refl _ _)
  simp at c0
  go_enter Tryz.func100, Tryz.ntmps100
  go_wp2_with fail
  refine (fof_any _ HE.out lo 1000000000000 h0 h1 (by decide) (by decide)).mono ?_
  rintro e w1 ⟨rfl, hb1⟩
  rw [show (1000000000000 : Int).toNat = 1000000000000 from rfl, HT.out, HTE.out]
  have hW1 := chain hW hb1
  have hs := hW1.size
  have y3 := cell_later (j := 0) O1.out hb1
  have y4 := cell_later (j := 1) O1.out hb1
  have g3 := frozen_later O1.out hb1 0
  have g4 := frozen_later O1.out hb1 1
  simp at y3 y4
  go_wp2
  refine bodyPost_ret (v := .tuple #[.agg #[.string S, .string D], .int .i64 te]) (by simp [results, Tryz.results100, go_sem, y3, y4]) rfl ⟨by rw [HT.out, HTE.out], ?_⟩
  repeat (first | with_reducible exact hW1 | (with_reducible refine Below.setCell ?_ (by first | omega | (simp <;> omega)) _) | (with_reducible refine Below.alloc ?_ (by first | omega | (simp <;> omega)) _))

theorem low_any (w : World) (henv : Env w) (lo hi : Int) (hok : okB lo hi = true) :
    Calls Tryz.prog 40 #[bandV lo hi] w (RetF w (mkRat lo 1000000000000)) := by
  have hmf : ∀ (fn : Fn) (first cap : Array Value) (w : World), (Instr.makeFunc fn first cap).run Tryz.prog w = .ok (.func fn first cap) w := fun _ _ _ _ => rfl
  obtain ⟨S, D, hT⟩ := toldQ_agg (mkRat lo 1000000000000)
  have HT := Lib.hid hT
  obtain ⟨te, hte⟩ : ∃ te, toldQE (mkRat lo 1000000000000) = te := ⟨_, rfl⟩
  have HTE := Lib.hid hte
  clear hT hte
  have hbd := (ok_iff lo hi).1 hok
  have hW : Below w.heap.size w (((w.alloc (.cells #[.int .i64 lo, .int .i64 hi] 23)).alloc (.cells #[.string ⟨#[]⟩, .string ⟨#[]⟩] 51)).alloc (.cells #[.int .i64 lo, .int .i64 hi] 23)) := ((((Below.refl w.heap.size w).alloc (Nat.le_refl _) _).alloc (by simp <;> omega) _).alloc (by simp <;> omega) _)
  have o1 := heap_more (heap_more (heap_last w (.cells #[.int .i64 lo, .int .i64 hi] 23)) (.cells #[.string ⟨#[]⟩, .string ⟨#[]⟩] 51)) (.cells #[.int .i64 lo, .int .i64 hi] 23)
  have O1 := Lib.hid o1
  clear o1
  have o2 := heap_more (heap_last (w.alloc (.cells #[.int .i64 lo, .int .i64 hi] 23)) (.cells #[.string ⟨#[]⟩, .string ⟨#[]⟩] 51)) (.cells #[.int .i64 lo, .int .i64 hi] 23)
  rw [show (w.alloc (.cells #[.int .i64 lo, .int .i64 hi] 23)).heap.size = w.heap.size + 1 by simp] at o2
  have O2 := Lib.hid o2
  clear o2
  have o3 := heap_last ((w.alloc (.cells #[.int .i64 lo, .int .i64 hi] 23)).alloc (.cells #[.string ⟨#[]⟩, .string ⟨#[]⟩] 51)) (.cells #[.int .i64 lo, .int .i64 hi] 23)
  rw [show ((w.alloc (.cells #[.int .i64 lo, .int .i64 hi] 23)).alloc (.cells #[.string ⟨#[]⟩, .string ⟨#[]⟩] 51)).heap.size = w.heap.size + 1 + 1 by simp] at o3
  have O3 := Lib.hid o3
  clear o3
  have hsz : (((w.alloc (.cells #[.int .i64 lo, .int .i64 hi] 23)).alloc (.cells #[.string ⟨#[]⟩, .string ⟨#[]⟩] 51)).alloc (.cells #[.int .i64 lo, .int .i64 hi] 23)).heap.size = w.heap.size + 1 + 1 + 1 := by simp
  have HSZ := Lib.hid hsz
  clear hsz
  have HE := Lib.hid (henv.below hW)
  clear henv
  go_enter Tryz.func40, Tryz.ntmps40
  go_wp2_with fail
  refine (checkedF1_any 100 (fun _ _ => by kernel_rfl) #[.pointer (some ⟨w.heap.size, 0, none⟩)] _ (w.heap.size + 1 + 1) lo hi 23 (Lib.hid O3.out) (mkRat lo 1000000000000) hok (fun w' hb' => lowclo_any w' (HE.out.below hb') _ _ lo hi (Lib.hid (blk_later O1.out hb')) (by omega) (by omega))).mono ?_
  rintro e w1 ⟨rfl, hb1⟩
  rw [HT.out, HTE.out]
  have hW1 := chain hW hb1
  have hs := hW1.size
  have y3 := cell_later (j := 0) O2.out hb1
  have y4 := cell_later (j := 1) O2.out hb1
  have g3 := frozen_later O2.out hb1 0
  have g4 := frozen_later O2.out hb1 1
  simp at y3 y4
  go_wp2
  refine bodyPost_ret (v := .tuple #[.agg #[.string S, .string D], .int .i64 te]) (by simp [results, Tryz.results40, go_sem, y3, y4]) rfl ⟨by rw [HT.out, HTE.out], ?_⟩
  repeat (first | with_reducible exact hW1 | (with_reducible refine Below.setCell ?_ (by first | omega | (simp <;> omega)) _) | (with_reducible refine Below.alloc ?_ (by first | omega | (simp <;> omega)) _))

theorem highclo_any (w : World) (henv : Env w) (pb : Nat) (Tb : TypeId) (lo hi : Int) (hpb : Hid (Blk w pb #[.int .i64 lo, .int .i64 hi] Tb)) (h0 : -9223372036854775808 ≤ hi) (h1 : hi < 9223372036854775808) :
    Calls Tryz.prog 101 #[.pointer (some ⟨pb, 0, none⟩)] w (RetF w (mkRat hi 1000000000000)) := by
  obtain ⟨S, D, hT⟩ := toldQ_agg (mkRat hi 1000000000000)
  have HT := Lib.hid hT
  obtain ⟨te, hte⟩ : ∃ te, toldQE (mkRat hi 1000000000000) = te := ⟨_, rfl⟩
  have HTE := Lib.hid hte
  clear hT hte
  have hlt : pb < w.heap.size := (Array.getElem?_eq_some_iff.1 hpb.out).1
  have hW : Below w.heap.size w (w.alloc (.cells #[.string ⟨#[]⟩, .string ⟨#[]⟩] 51)) := ((Below.refl w.heap.size w).alloc (Nat.le_refl _) _)
  have o1 := heap_last w (.cells #[.string ⟨#[]⟩, .string ⟨#[]⟩] 51)
  have O1 := Lib.hid o1
  clear o1
  have hsz : (w.alloc (.cells #[.string ⟨#[]⟩, .string ⟨#[]⟩] 51)).heap.size = w.heap.size + 1 := by simp
  have HSZ := Lib.hid hsz
  clear hsz
  have HE := Lib.hid (henv.below hW)
  clear henv
  have c0 := cell_later (j := 1) hpb.out hW
  have c1 : w.cell? ⟨pb, 1, none⟩ = some (.int .i64 hi) := cell_later (w1 := w) hpb.out (Below.refl _ _)
  simp at c0
  go_enter Tryz.func101, Tryz.ntmps101
  go_wp2_with fail
  refine (fof_any _ HE.out hi 1000000000000 h0 h1 (by decide) (by decide)).mono ?_
  rintro e w1 ⟨rfl, hb1⟩
  rw [show (1000000000000 : Int).toNat = 1000000000000 from rfl, HT.out, HTE.out]
  have hW1 := chain hW hb1
  have hs := hW1.size
  have y3 := cell_later (j := 0) O1.out hb1
  have y4 := cell_later (j := 1) O1.out hb1
  have g3 := frozen_later O1.out hb1 0
  have g4 := frozen_later O1.out hb1 1
  simp at y3 y4
  go_wp2
  refine bodyPost_ret (v := .tuple #[.agg #[.string S, .string D], .int .i64 te]) (by simp [results, Tryz.results101, go_sem, y3, y4]) rfl ⟨by rw [HT.out, HTE.out], ?_⟩
  repeat (first | with_reducible exact hW1 | (with_reducible refine Below.setCell ?_ (by first | omega | (simp <;> omega)) _) | (with_reducible refine Below.alloc ?_ (by first | omega | (simp <;> omega)) _))

theorem high_any (w : World) (henv : Env w) (lo hi : Int) (hok : okB lo hi = true) :
    Calls Tryz.prog 42 #[bandV lo hi] w (RetF w (mkRat hi 1000000000000)) := by
  have hmf : ∀ (fn : Fn) (first cap : Array Value) (w : World), (Instr.makeFunc fn first cap).run Tryz.prog w = .ok (.func fn first cap) w := fun _ _ _ _ => rfl
  obtain ⟨S, D, hT⟩ := toldQ_agg (mkRat hi 1000000000000)
  have HT := Lib.hid hT
  obtain ⟨te, hte⟩ : ∃ te, toldQE (mkRat hi 1000000000000) = te := ⟨_, rfl⟩
  have HTE := Lib.hid hte
  clear hT hte
  have hbd := (ok_iff lo hi).1 hok
  have hW : Below w.heap.size w (((w.alloc (.cells #[.int .i64 lo, .int .i64 hi] 23)).alloc (.cells #[.string ⟨#[]⟩, .string ⟨#[]⟩] 51)).alloc (.cells #[.int .i64 lo, .int .i64 hi] 23)) := ((((Below.refl w.heap.size w).alloc (Nat.le_refl _) _).alloc (by simp <;> omega) _).alloc (by simp <;> omega) _)
  have o1 := heap_more (heap_more (heap_last w (.cells #[.int .i64 lo, .int .i64 hi] 23)) (.cells #[.string ⟨#[]⟩, .string ⟨#[]⟩] 51)) (.cells #[.int .i64 lo, .int .i64 hi] 23)
  have O1 := Lib.hid o1
  clear o1
  have o2 := heap_more (heap_last (w.alloc (.cells #[.int .i64 lo, .int .i64 hi] 23)) (.cells #[.string ⟨#[]⟩, .string ⟨#[]⟩] 51)) (.cells #[.int .i64 lo, .int .i64 hi] 23)
  rw [show (w.alloc (.cells #[.int .i64 lo, .int .i64 hi] 23)).heap.size = w.heap.size + 1 by simp] at o2
  have O2 := Lib.hid o2
  clear o2
  have o3 := heap_last ((w.alloc (.cells #[.int .i64 lo, .int .i64 hi] 23)).alloc (.cells #[.string ⟨#[]⟩, .string ⟨#[]⟩] 51)) (.cells #[.int .i64 lo, .int .i64 hi] 23)
  rw [show ((w.alloc (.cells #[.int .i64 lo, .int .i64 hi] 23)).alloc (.cells #[.string ⟨#[]⟩, .string ⟨#[]⟩] 51)).heap.size = w.heap.size + 1 + 1 by simp] at o3
  have O3 := Lib.hid o3
  clear o3
  have hsz : (((w.alloc (.cells #[.int .i64 lo, .int .i64 hi] 23)).alloc (.cells #[.string ⟨#[]⟩, .string ⟨#[]⟩] 51)).alloc (.cells #[.int .i64 lo, .int .i64 hi] 23)).heap.size = w.heap.size + 1 + 1 + 1 := by simp
  have HSZ := Lib.hid hsz
  clear hsz
  have HE := Lib.hid (henv.below hW)
  clear henv
  go_enter Tryz.func42, Tryz.ntmps42
  go_wp2_with fail
  refine (checkedF1_any 101 (fun _ _ => by kernel_rfl) #[.pointer (some ⟨w.heap.size, 0, none⟩)] _ (w.heap.size + 1 + 1) lo hi 23 (Lib.hid O3.out) (mkRat hi 1000000000000) hok (fun w' hb' => highclo_any w' (HE.out.below hb') _ _ lo hi (Lib.hid (blk_later O1.out hb')) (by omega) (by omega))).mono ?_
  rintro e w1 ⟨rfl, hb1⟩
  rw [HT.out, HTE.out]
  have hW1 := chain hW hb1
  have hs := hW1.size
  have y3 := cell_later (j := 0) O2.out hb1
  have y4 := cell_later (j := 1) O2.out hb1
  have g3 := frozen_later O2.out hb1 0
  have g4 := frozen_later O2.out hb1 1
  simp at y3 y4
  go_wp2
  refine bodyPost_ret (v := .tuple #[.agg #[.string S, .string D], .int .i64 te]) (by simp [results, Tryz.results42, go_sem, y3, y4]) rfl ⟨by rw [HT.out, HTE.out], ?_⟩
  repeat (first | with_reducible exact hW1 | (with_reducible refine Below.setCell ?_ (by first | omega | (simp <;> omega)) _) | (with_reducible refine Below.alloc ?_ (by first | omega | (simp <;> omega)) _))

end Go.Proofs.YtkajibniibjblaaGreatDoor

namespace Go.Proofs.YtkajibniibjblaaGreatDoor
open Go.RowKit
set_option maxRecDepth 100000

theorem unitsF_floor (q : Rat) : unitsF q = (q * ((1000000000000 : Int) : Rat)).floor := (Rat.floor_def _).symm
theorem unitsF_small {z : Int} {b : Nat} (hb : 0 < b) (hz : z.natAbs ≤ 65535) : -100000000000000000 ≤ unitsF (mkRat z b) ∧ unitsF (mkRat z b) ≤ 100000000000000000 := by
  have hb' : (0 : Rat) < (b : Rat) := by exact_mod_cast hb
  have e : mkRat z b * ((1000000000000 : Int) : Rat) = ((z * 1000000000000 : Int) : Rat) / (b : Rat) := by
    rw [Rat.mkRat_eq_div, Rat.intCast_mul]; grind
  rw [unitsF_floor, e]
  constructor
  · rw [Rat.le_floor_iff]
    refine Rat.le_of_lt ?_
    rw [Rat.lt_div_iff hb', ← Rat.intCast_natCast, ← Rat.intCast_mul, Rat.intCast_lt_intCast]
    omega
  · refine Int.le_of_lt_add_one ?_
    rw [Rat.floor_lt_iff, Rat.div_lt_iff hb', ← Rat.intCast_natCast, ← Rat.intCast_mul, Rat.intCast_lt_intCast]
    omega
theorem around_form (q : Rat) (h0 : -100000000000000000 ≤ unitsF q) (h1 : unitsF q ≤ 100000000000000000) :
    ∃ lo hi, aroundB q = ⟨lo, hi, 0⟩ ∧ okB lo hi = true ∧ hi - lo ≤ 1 ∧ hasB lo hi q = true ∧ (lo = hi ↔ mkRat lo 1000000000000 = q) := by
  have hle := Rat.floor_le (q * ((1000000000000 : Int) : Rat))
  have hlt := Rat.lt_floor_add_one (q * ((1000000000000 : Int) : Rat))
  rw [← unitsF_floor] at hle hlt
  have he : ((1000000000000 : Int) : Rat) = 1000000000000 := rfl
  rw [aroundB, if_pos (by omega)]
  by_cases h : q * ((1000000000000 : Int) : Rat) = (unitsF q : Rat)
  · rw [if_pos h]
    refine ⟨unitsF q, unitsF q, fit_ok ((ok_iff _ _).2 (by omega)), (ok_iff _ _).2 (by omega), by omega, (has_iff _ _ _).2 ?_, iff_of_true rfl ?_⟩
    · rw [← he, h]; exact ⟨Rat.le_refl, Rat.le_refl⟩
    · rw [he] at h
      rw [Rat.mkRat_eq_div, ← h]; grind
  · rw [if_neg h]
    refine ⟨unitsF q, unitsF q + 1, fit_ok ((ok_iff _ _).2 (by omega)), (ok_iff _ _).2 (by omega), by omega, (has_iff _ _ _).2 ?_, iff_of_false (by omega) ?_⟩
    · rw [he] at hle hlt
      exact ⟨hle, Rat.le_of_lt hlt⟩
    · intro hq
      apply h
      have := unit_mul (unitsF q)
      rw [hq] at this
      rw [he]; exact this
theorem around_unit2 {i : Int} (h0 : -1000000000000000000 ≤ i) (h1 : i ≤ 1000000000000000000) : aroundB (mkRat i 1000000000000) = ⟨i, i, 0⟩ := by
  have hu := unitsF_unit i
  rw [aroundB, hu, if_pos (by omega), show mkRat i 1000000000000 * ((1000000000000 : Int) : Rat) = (i : Rat) from unit_mul i, if_pos rfl, fit_ok ((ok_iff i i).2 (by omega))]
theorem itoa_inj {y z : Int} (h0 : -9223372036854775808 ≤ y) (h1 : y < 9223372036854775808) (h2 : -9223372036854775808 ≤ z) (h3 : z < 9223372036854775808) (h : Lib.itoa y = Lib.itoa z) : y = z := by
  have e := atoi_itoa_ok y h0 h1
  rw [h, atoi_itoa_ok z h2 h3] at e
  injection e with e
  exact e.symm
/-- A fraction whose parts are machine integers. -/
def SmQ (q : Rat) : Prop := -9223372036854775808 ≤ q.num ∧ q.num < 9223372036854775808 ∧ (q.den : Int) < 9223372036854775808
theorem SmQ.fits {q : Rat} (h : SmQ q) : fitsQ q = true := by
  have h1 : Go.Proofs.YtkajibniibjblaaGreatDoor.fits q.num = true := fits_i64 h.1 (by have := h.2.1; omega)
  have h2 : Go.Proofs.YtkajibniibjblaaGreatDoor.fits (q.den : Int) = true := fits_i64 (by omega) (by have := h.2.2; omega)
  rw [fitsQ, h1, h2]; rfl
theorem smQ_mk {z : Int} {b : Nat} (hb : 0 < b) (h0 : -9223372036854775808 ≤ z) (h1 : z < 9223372036854775808) (h2 : b < 9223372036854775808) : SmQ (mkRat z b) := by
  obtain ⟨q1, q2, _⟩ := norm_num z b hb
  have hd : (mkRat z b).den ≤ b := by rw [q2]; exact Nat.div_le_self _ _
  have hn : (mkRat z b).num.natAbs ≤ z.natAbs := by rw [q1]; exact Nat.div_le_self _ _
  have hs : ((mkRat z b).num < 0 ↔ z < 0) := by
    have := (norm_num z b hb).2.2
    simpa using this
  refine ⟨?_, ?_, by omega⟩
  · omega
  · by_cases hz : z < 0
    · have := hs.2 hz; omega
    · omega
theorem toldS_inj {y z : Int} (h0 : -9223372036854775808 ≤ y) (h1 : y < 9223372036854775808) (h2 : -9223372036854775808 ≤ z) (h3 : z < 9223372036854775808) : toldS y = toldS z ↔ y = z := by
  have f1 : fits y = true := fits_i64 h0 (by omega)
  have f2 : fits z = true := fits_i64 h2 (by omega)
  constructor
  · intro h
    rw [toldS, toldS, if_pos f1, if_pos f2] at h
    injection h with h
    exact itoa_inj h0 h1 h2 h3 (by simpa using h)
  · intro h; rw [h]
/-- Two fractions read alike exactly if they are one. -/
theorem toldQ_inj {p q : Rat} (hp : SmQ p) (hq : SmQ q) : (toldS p.num = toldS q.num ∧ toldS (p.den : Int) = toldS (q.den : Int)) ↔ p = q := by
  obtain ⟨a1, a2, a3⟩ := hp
  obtain ⟨b1, b2, b3⟩ := hq
  rw [toldS_inj a1 a2 b1 b2, toldS_inj (by omega) a3 (by omega) b3]
  constructor
  · rintro ⟨h1, h2⟩
    exact Rat.ext h1 (by omega)
  · intro h; rw [h]; exact ⟨rfl, rfl⟩
theorem SmQ.told {q : Rat} (h : SmQ q) : toldQ q = .agg #[.string (toldS q.num), .string (toldS (q.den : Int))] := by rw [toldQ, if_pos h.fits]
theorem SmQ.toldE {q : Rat} (h : SmQ q) : toldQE q = 0 := by rw [toldQE, if_pos h.fits]
theorem SmQ.vq {q : Rat} (h : SmQ q) : VQ (toldS q.num) (toldS (q.den : Int)) q :=
  ⟨vw_toldS (fits_i64 h.1 (by have := h.2.1; omega)), vw_toldS (fits_i64 (by omega) (by have := h.2.2; omega))⟩
/-- What BandAround says of one fraction z / b with small parts: its band, and the fraction of its lower end. -/
theorem around_small {z : Int} {b : Nat} (hb : 0 < b) (hb1 : b ≤ 65535) (hz : z.natAbs ≤ 65535) :
    ∃ lo hi, aroundB (mkRat z b) = ⟨lo, hi, 0⟩ ∧ okB lo hi = true ∧ hi - lo ≤ 1 ∧ hasB lo hi (mkRat z b) = true ∧ SmQ (mkRat z b) ∧ SmQ (mkRat lo 1000000000000) ∧
      (lo = hi ↔ (toldS (mkRat lo 1000000000000).num = toldS (mkRat z b).num ∧ toldS ((mkRat lo 1000000000000).den : Int) = toldS ((mkRat z b).den : Int))) := by
  have hu := unitsF_small hb hz
  obtain ⟨lo, hi, h1, h2, h3, h4, h5⟩ := around_form (mkRat z b) hu.1 hu.2
  have hq : SmQ (mkRat z b) := smQ_mk hb (by omega) (by omega) (by omega)
  have hl : SmQ (mkRat lo 1000000000000) := by
    have := (ok_iff lo hi).1 h2
    exact smQ_mk (by decide) (by omega) (by omega) (by decide)
  exact ⟨lo, hi, h1, h2, h3, h4, hq, hl, by rw [toldQ_inj hl hq]; exact h5⟩
end Go.Proofs.YtkajibniibjblaaGreatDoor
