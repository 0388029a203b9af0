/-
  band: size, over.
-/
import Derived.Test.YtkajibniibjblaaGreatDoorBandA
import Derived.Test.YtkajibniibjblaaGreatDoorBits
namespace Go.Proofs.YtkajibniibjblaaGreatDoor
open Go.RowKit
set_option maxRecDepth 100000

theorem size_i (w : World) (n s : Int) (hs : Hid (s = n.natAbs)) (h0 : -1000000000000000000 ≤ n) (h1 : n ≤ 1000000000000000000) :
    Calls Tryz.prog 118 #[.int .i64 n] w fun e w' => e = .returned (.int .u64 s) ∧ w = w' := by
  by_cases h : 0 ≤ n
  · have e : s = n := by have := hs.out; omega
    clear hs
    subst e
    have hm : max s (-s) = s := by omega
    have hm2 := fun w ts t => run_max2 w ts t s (-s)
    rw [hm] at hm2
    clear hm
    go_enter Tryz.func118, Tryz.ntmps118
    go_wp2
    all_goals go_ret
    all_goals exact ⟨ret_eq (congrArg (Value.int .u64) (by omega)), rfl⟩
  · have e : n = -s := by have := hs.out; omega
    clear hs
    subst e
    have hm : max (-s) (-(-s)) = s := by omega
    have hm2 := fun w ts t => run_max2 w ts t (-s) (-(-s))
    rw [hm] at hm2
    rw [show -(-s) = s by omega] at hm2
    clear hm
    go_enter Tryz.func118, Tryz.ntmps118
    go_wp2
    all_goals go_ret
    all_goals exact ⟨ret_eq (congrArg (Value.int .u64) (by omega)), rfl⟩

def belowB (a b d : Int) : Bool := (!(!decide (a < 0) == decide (b < 0)) == decide (d < 0))
theorem below_iff (a b d : Int) : belowB a b d = true ↔ ((a < 0) ≠ (b < 0)) ≠ (d < 0) := by
  unfold belowB
  by_cases h1 : a < 0 <;> by_cases h2 : b < 0 <;> by_cases h3 : d < 0 <;> simp [h1, h2, h3]

theorem quot_nat {A B D : Nat} {hi lo q r : Int} (hm : hi * W64 + lo = (A : Int) * B) (hq : q * D + r = hi * W64 + lo) (q0 : 0 ≤ q) (r0 : 0 ≤ r) (r1 : r < D) :
    ((A * B / D : Nat) : Int) = q ∧ ((A * B % D : Nat) : Int) = r := by
  obtain ⟨q, rfl⟩ := Int.eq_ofNat_of_zero_le q0
  obtain ⟨r, rfl⟩ := Int.eq_ofNat_of_zero_le r0
  have e : q * D + r = A * B := by
    have : ((q * D + r : Nat) : Int) = ((A * B : Nat) : Int) := by push_cast; omega
    omega
  have hr : r < D := by omega
  have hD : 0 < D := by omega
  rw [← e, Nat.mul_comm q D, Nat.mul_add_div hD, Nat.div_eq_of_lt hr, Nat.mul_add_mod, Nat.mod_eq_of_lt hr]
  simp
theorem over_near {a b d sa sb sd hi lo q r : Int} (hd : d ≠ 0) (h1 : sa = a.natAbs) (h2 : sb = b.natAbs) (h3 : sd = d.natAbs) (hm : hi * W64 + lo = sa * sb) (hq : q * sd + r = hi * W64 + lo) (q0 : 0 ≤ q) (r0 : 0 ≤ r) (r1 : r < sd)
    (hf : q < 2305843009213693952) :
    (belowB a b d = false → overV a b d = (q, q + (if 0 < r then 1 else 0))) ∧ (belowB a b d = true → overV a b d = (-(q + (if 0 < r then 1 else 0)), -q)) := by
  subst h1 h2 h3
  obtain ⟨e1, e2⟩ := quot_nat hm hq q0 r0 r1
  have hn := over_nat a b d hd
  have ht : a.natAbs * b.natAbs / d.natAbs < 2305843009213693952 := by omega
  have hr : (if 0 < a.natAbs * b.natAbs % d.natAbs then (1 : Int) else 0) = if 0 < r then 1 else 0 := by
    by_cases h : 0 < r
    · rw [if_pos h, if_pos (by omega)]
    · rw [if_neg h, if_neg (by omega)]
  rw [e1, hr] at hn
  unfold overV
  rw [if_pos ht]
  constructor
  · intro h
    have := hn.1 (fun h' => by rw [← below_iff] at h'; rw [h] at h'; cases h')
    rw [this.1, this.2]
  · intro h
    have := hn.2 ((below_iff a b d).1 h)
    rw [this.1, this.2]
theorem over_far {a b d sa sb sd hi lo : Int} (h1 : sa = a.natAbs) (h2 : sb = b.natAbs) (h3 : sd = d.natAbs) (hm : hi * W64 + lo = sa * sb) (hD : 0 < sd)
    (hf : 2305843009213693952 * sd ≤ hi * W64 + lo) :
    (belowB a b d = false → overV a b d = (2305843009213693952, 2305843009213693952)) ∧ (belowB a b d = true → overV a b d = (-2305843009213693952, -2305843009213693952)) := by
  subst h1 h2 h3
  have ht : ¬ a.natAbs * b.natAbs / d.natAbs < 2305843009213693952 := by
    rw [Nat.div_lt_iff_lt_mul (by omega)]
    have h4 : ((2305843009213693952 * d.natAbs : Nat) : Int) ≤ ((a.natAbs * b.natAbs : Nat) : Int) := by
      rw [Int.natCast_mul, Int.natCast_mul]
      exact Int.le_trans hf (Int.le_of_eq hm)
    exact Nat.not_lt.2 (Int.ofNat_le.1 h4)
  unfold overV
  rw [if_neg ht]
  constructor
  · intro h
    rw [if_neg (fun h' => by rw [← below_iff] at h'; rw [h] at h'; cases h')]
  · intro h
    rw [if_pos ((below_iff a b d).1 h)]
theorem far_hi {sd hi lo : Int} (h : sd ≤ hi) (l0 : 0 ≤ lo) (hD : 0 < sd) : 2305843009213693952 * sd ≤ hi * W64 + lo := by unfold W64; omega
theorem far_q {sd hi lo q r : Int} (hq : q * sd + r = hi * W64 + lo) (h : 2305843009213693952 ≤ q) (r0 : 0 ≤ r) (hD : 0 < sd) : 2305843009213693952 * sd ≤ hi * W64 + lo := by
  have := Int.mul_le_mul_of_nonneg_right h (Int.le_of_lt hD)
  omega

/-- A pair of ends as a value. -/
abbrev endV (p : Int × Int) : Value := .agg #[.int .i64 p.1, .int .i64 p.2]
def RetE (w : World) (p : Int × Int) : Ending → World → Prop := fun e w' => e = .returned (endV p) ∧ Below w.heap.size w w'

set_option maxHeartbeats 4000000 in
theorem over_any_b (w : World) (a b d : Int) (ha0 : -1000000000000000000 ≤ a) (ha1 : a ≤ 1000000000000000000) (hb0 : -1000000000000000000 ≤ b) (hb1 : b ≤ 1000000000000000000) (hd0 : -1000000000000000000 ≤ d) (hd1 : d ≤ 1000000000000000000) (hd : d ≠ 0) :
    Calls Tryz.prog 59 #[.int .i64 a, .int .i64 b, .int .i64 d] w (RetE w (overV a b d)) := by
  obtain ⟨sa, hsa⟩ : ∃ s : Int, s = a.natAbs := ⟨_, rfl⟩
  obtain ⟨sb, hsb⟩ : ∃ s : Int, s = b.natAbs := ⟨_, rfl⟩
  obtain ⟨sd, hsd⟩ : ∃ s : Int, s = d.natAbs := ⟨_, rfl⟩
  have a0 : 0 ≤ sa := by omega
  have a1 : sa ≤ 1000000000000000000 := by omega
  have b0 : 0 ≤ sb := by omega
  have b1 : sb ≤ 1000000000000000000 := by omega
  have d0 : 0 < sd := by omega
  have d1 : sd ≤ 1000000000000000000 := by omega
  have HA := Lib.hid hsa
  have HB := Lib.hid hsb
  have HD := Lib.hid hsd
  have hdne := Lib.hid hd
  clear hsa hsb hsd hd
  obtain ⟨p, hp⟩ : ∃ p, overV a b d = p := ⟨_, rfl⟩
  rw [hp]
  have HP := Lib.hid hp
  clear hp
  have hW : Below w.heap.size w ((w.alloc (.cells #[.int .i64 0, .int .i64 0] 87)).alloc (.cells #[.int .i64 2305843009213693952, .int .i64 2305843009213693952] 87)) := (((Below.refl w.heap.size w).alloc (Nat.le_refl _) _).alloc (by simp <;> omega) _)
  have o1 := heap_more (heap_last w (.cells #[.int .i64 0, .int .i64 0] 87)) (.cells #[.int .i64 2305843009213693952, .int .i64 2305843009213693952] 87)
  have O1 := Lib.hid o1
  clear o1
  have o2 := heap_last (w.alloc (.cells #[.int .i64 0, .int .i64 0] 87)) (.cells #[.int .i64 2305843009213693952, .int .i64 2305843009213693952] 87)
  rw [show (w.alloc (.cells #[.int .i64 0, .int .i64 0] 87)).heap.size = w.heap.size + 1 by simp] at o2
  have O2 := Lib.hid o2
  clear o2
  have hsz : ((w.alloc (.cells #[.int .i64 0, .int .i64 0] 87)).alloc (.cells #[.int .i64 2305843009213693952, .int .i64 2305843009213693952] 87)).heap.size = w.heap.size + 1 + 1 := by simp
  have HSZ := Lib.hid hsz
  clear hsz
  go_enter Tryz.func59, Tryz.ntmps59
  go_wp2_with fail
  refine (size_i _ a sa HA ha0 ha1).mono ?_
  rintro e w1 ⟨rfl, rfl⟩
  go_wp2_with fail
  refine (size_i _ b sb HB hb0 hb1).mono ?_
  rintro e w1 ⟨rfl, rfl⟩
  go_wp2_with fail
  refine (mul64_any sa sb a0 (by omega) b0 (by omega) _).mono ?_
  rintro e w1 ⟨hi, lo, rfl, hm, hi0, lo0, lo1, rfl⟩
  go_wp2_with fail
  refine (size_i _ d sd HD hd0 hd1).mono ?_
  rintro e w1 ⟨rfl, rfl⟩
  by_cases hlt : hi < sd
  · go_wp2_with fail
    refine (size_i _ d sd HD hd0 hd1).mono ?_
    rintro e w1 ⟨rfl, rfl⟩
    go_wp2_with fail
    refine (div64_any hi lo sd _ hi0 hlt (by omega) lo0 lo1).mono ?_
    rintro e w1 ⟨q, r, rfl, hq, q0, q1, r0, r1, hb⟩
    have hW1 := chain hW hb
    have hs := hW1.size
    have hs3 := hb.size
    simp at hs3
    have x0 := cell_later (j := 0) O2.out hb
    have x1 := cell_later (j := 1) O2.out hb
    have x2 := frozen_later O2.out hb 0
    have x3 := frozen_later O2.out hb 1
    have y0 := cell_later (j := 0) O1.out hb
    have y1 := cell_later (j := 1) O1.out hb
    have y2 := frozen_later O1.out hb 0
    have y3 := frozen_later O1.out hb 1
    simp at x0 x1 y0 y1
    by_cases hf : q < 2305843009213693952
    · have HE := Lib.hid (over_near hdne.out HA.out HB.out HD.out hm.out hq.out q0 r0 r1 hf)
      cases hbel : belowB a b d
      · have hB : (!(!decide (a < 0) == decide (b < 0)) == decide (d < 0)) = false := hbel
        by_cases hr : 0 < r
        · have hx := HP.out.symm.trans (HE.out.1 hbel)
          rw [if_pos hr] at hx
          have HX := Lib.hid hx
          clear hx
          have z1 : (((w1.setCell ⟨w.heap.size + 1, 0, none⟩ (.int .i64 q)).setCell ⟨w.heap.size + 1, 1, none⟩ (.int .i64 q)).setCell ⟨w.heap.size + 1, 1, none⟩ (.int .i64 (q + 1))).cell? ⟨w.heap.size + 1, 1, none⟩ = some (.int .i64 (q + 1)) := World.cell?_setCell_same _ _ _ (World.cell?_setCell_same _ _ _ ((World.cell?_setCell_other _ _ _ _ (by simp)).trans x1))
          go_wp2
          refine bodyPost_ret (v := endV (q, q + 1)) (by simp [results, Tryz.results59, go_sem, y0, y1]) rfl ⟨by rw [HX.out], ?_⟩
          first
            | exact (((((hW1.setCell (by simp <;> omega) _).setCell (by simp <;> omega) _).setCell (by simp <;> omega) _).setCell (by simp <;> omega) _).setCell (by simp <;> omega) _)
        · have hx := HP.out.symm.trans (HE.out.1 hbel)
          rw [if_neg hr, Int.add_zero] at hx
          have HX := Lib.hid hx
          clear hx
          go_wp2
          refine bodyPost_ret (v := endV (q, q)) (by simp [results, Tryz.results59, go_sem, y0, y1]) rfl ⟨by rw [HX.out], ?_⟩
          first
            | exact ((((hW1.setCell (by simp <;> omega) _).setCell (by simp <;> omega) _).setCell (by simp <;> omega) _).setCell (by simp <;> omega) _)
      · have hB : (!(!decide (a < 0) == decide (b < 0)) == decide (d < 0)) = true := hbel
        by_cases hr : 0 < r
        · have hx := HP.out.symm.trans (HE.out.2 hbel)
          rw [if_pos hr] at hx
          have HX := Lib.hid hx
          clear hx
          have z1 : (((w1.setCell ⟨w.heap.size + 1, 0, none⟩ (.int .i64 q)).setCell ⟨w.heap.size + 1, 1, none⟩ (.int .i64 q)).setCell ⟨w.heap.size + 1, 1, none⟩ (.int .i64 (q + 1))).cell? ⟨w.heap.size + 1, 1, none⟩ = some (.int .i64 (q + 1)) := World.cell?_setCell_same _ _ _ (World.cell?_setCell_same _ _ _ ((World.cell?_setCell_other _ _ _ _ (by simp)).trans x1))
          go_wp2
          refine bodyPost_ret (v := endV (-(q + 1), -q)) (by simp [results, Tryz.results59, go_sem, y0, y1]) rfl ⟨by rw [HX.out], ?_⟩
          first
            | exact (((((hW1.setCell (by simp <;> omega) _).setCell (by simp <;> omega) _).setCell (by simp <;> omega) _).setCell (by simp <;> omega) _).setCell (by simp <;> omega) _)
        · have hx := HP.out.symm.trans (HE.out.2 hbel)
          rw [if_neg hr, Int.add_zero] at hx
          have HX := Lib.hid hx
          clear hx
          go_wp2
          refine bodyPost_ret (v := endV (-q, -q)) (by simp [results, Tryz.results59, go_sem, y0, y1]) rfl ⟨by rw [HX.out], ?_⟩
          first
            | exact ((((hW1.setCell (by simp <;> omega) _).setCell (by simp <;> omega) _).setCell (by simp <;> omega) _).setCell (by simp <;> omega) _)
    · have HE := Lib.hid (over_far HA.out HB.out HD.out hm.out d0 (far_q hq.out (by omega) r0 d0))
      cases hbel : belowB a b d
      · have hB : (!(!decide (a < 0) == decide (b < 0)) == decide (d < 0)) = false := hbel
        have hx := HP.out.symm.trans (HE.out.1 hbel)
        have HX := Lib.hid hx
        clear hx
        go_wp2
        refine bodyPost_ret (v := endV (2305843009213693952, 2305843009213693952)) (by simp [results, Tryz.results59, go_sem, y0, y1]) rfl ⟨by rw [HX.out], ?_⟩
        first
          | exact ((hW1.setCell (by simp <;> omega) _).setCell (by simp <;> omega) _)
      · have hB : (!(!decide (a < 0) == decide (b < 0)) == decide (d < 0)) = true := hbel
        have hx := HP.out.symm.trans (HE.out.2 hbel)
        have HX := Lib.hid hx
        clear hx
        go_wp2
        refine bodyPost_ret (v := endV (-2305843009213693952, -2305843009213693952)) (by simp [results, Tryz.results59, go_sem, y0, y1]) rfl ⟨by rw [HX.out], ?_⟩
        first
          | exact ((hW1.setCell (by simp <;> omega) _).setCell (by simp <;> omega) _)
  · have HE := Lib.hid (over_far HA.out HB.out HD.out hm.out d0 (far_hi (by omega) lo0 d0))
    cases hbel : belowB a b d
    · have hB : (!(!decide (a < 0) == decide (b < 0)) == decide (d < 0)) = false := hbel
      have HX := Lib.hid (HP.out.symm.trans (HE.out.1 hbel))
      go_wp2
      refine bodyPost_ret (v := endV (2305843009213693952, 2305843009213693952)) (by simp [results, Tryz.results59, go_sem]) rfl ⟨by rw [HX.out], ?_⟩
      exact ((Below.refl w.heap.size w).alloc (Nat.le_refl _) _).alloc (by simp) _
    · have hB : (!(!decide (a < 0) == decide (b < 0)) == decide (d < 0)) = true := hbel
      have HX := Lib.hid (HP.out.symm.trans (HE.out.2 hbel))
      go_wp2
      refine bodyPost_ret (v := endV (-2305843009213693952, -2305843009213693952)) (by simp [results, Tryz.results59, go_sem]) rfl ⟨by rw [HX.out], ?_⟩
      exact ((Below.refl w.heap.size w).alloc (Nat.le_refl _) _).alloc (by simp) _

end Go.Proofs.YtkajibniibjblaaGreatDoor
