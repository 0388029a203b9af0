/-
  band: Around, at valid fractions.
-/
import Derived.Test.YtkajibniibjblaaGreatDoorBand14
import Derived.Test.YtkajibniibjblaaGreatDoorFracA
namespace Go.Proofs.YtkajibniibjblaaGreatDoor
open Go.RowKit
set_option maxRecDepth 100000

/-- The greatest integer that is at most q units, as the code has it. -/
def unitsF (q : Rat) : Int := (q * ((1000000000000 : Int) : Rat)).num / ((q * ((1000000000000 : Int) : Rat)).den : Int)
/-- The band of a fraction. -/
def aroundB (q : Rat) : BR :=
  if -1000000000000000000 ≤ unitsF q ∧ unitsF q ≤ 1000000000000000000 then (if q * ((1000000000000 : Int) : Rat) = (unitsF q : Rat) then fitB (unitsF q) (unitsF q) else fitB (unitsF q) (unitsF q + 1)) else .bad 6
theorem vw_told {z : Int} (h : fits z = true) : VW (toldS z) z := ⟨h, by rw [toldS, if_pos h]⟩
theorem sub_zero_iff (a b : Rat) : (a - b).num.sign = 0 ↔ a = b := by
  rw [Int.sign_eq_zero_iff_zero, Rat.num_eq_zero]
  constructor
  · intro h; grind
  · intro h; grind

set_option maxHeartbeats 4000000 in
theorem around_in (w : World) (henv : Env2 w) (N D : ByteArray) (q : Rat) (h : VQ N D q) (h0 : -1000000000000000000 ≤ unitsF q) (h1 : unitsF q ≤ 1000000000000000000) (hf : fits (unitsF q) = true) :
    Calls Tryz.prog 36 #[.agg #[.string N, .string D]] w (RetB w (aroundB q)) := by
  obtain ⟨s, hs⟩ : ∃ s, aroundB q = s := ⟨_, rfl⟩
  rw [hs]
  have hs' : (if q * ((1000000000000 : Int) : Rat) = (unitsF q : Rat) then fitB (unitsF q) (unitsF q) else fitB (unitsF q) (unitsF q + 1)) = s := by rw [← hs]; unfold aroundB; exact (if_pos ⟨h0, h1⟩).symm
  clear hs
  obtain ⟨Q, hQ⟩ : ∃ Q, q * ((1000000000000 : Int) : Rat) = Q := ⟨_, rfl⟩
  obtain ⟨i, hi⟩ : ∃ i, unitsF q = i := ⟨_, rfl⟩
  have HI : Hid (Q.num / (Q.den : Int) = i) := by show _ = _; rw [← hi, unitsF, hQ]
  have HQ := Lib.hid hQ
  rw [hi, hQ] at hs'
  rw [hi] at h0 h1 hf
  have HVT := Lib.hid (vw_told hf)
  have hte : toldE i = 0 := by rw [toldE, if_pos hf]
  clear hQ hi hf
  have HS' := Lib.hid hs'
  clear hs'

  have HV := Lib.hid h
  clear h
  have hW : Below w.heap.size w ((w.alloc (.cells #[.string N, .string D] 51)).alloc (.cells #[.int .i64 0, .int .i64 0] 23)) := (((Below.refl w.heap.size w).alloc (Nat.le_refl _) _).alloc (by simp <;> omega) _)
  have o1 := heap_more (heap_last w (.cells #[.string N, .string D] 51)) (.cells #[.int .i64 0, .int .i64 0] 23)
  have O1 := Lib.hid o1
  clear o1
  have o2 := heap_last (w.alloc (.cells #[.string N, .string D] 51)) (.cells #[.int .i64 0, .int .i64 0] 23)
  rw [show (w.alloc (.cells #[.string N, .string D] 51)).heap.size = w.heap.size + 1 by simp] at o2
  have O2 := Lib.hid o2
  clear o2
  have hsz : ((w.alloc (.cells #[.string N, .string D] 51)).alloc (.cells #[.int .i64 0, .int .i64 0] 23)).heap.size = w.heap.size + 1 + 1 := by simp
  have HSZ := Lib.hid hsz
  clear hsz
  have HE := Lib.hid (henv.below hW)
  clear henv
  go_enter Tryz.func36, Tryz.ntmps36
  go_wp2_with fail
  refine (fcheck_ok _ HE.out.toEnv N D q HV.out).mono ?_
  rintro e w1 ⟨rfl, hb1⟩
  have x1 := cell_later (j := 0) O1.out hb1
  have x2 := cell_later (j := 1) O1.out hb1
  simp at x1 x2
  go_wp2_with fail
  refine (readq_any _ N D q HV.out).mono ?_
  rintro e w2 ⟨b2, A2, l2, c2, B2, m2, d2, rfl, hs2, hA2, hB2, hb2, _, _⟩
  unfold rv
  go_wp2_with fail
  refine (fromq_any _ 1000000000000 (by decide) (by decide)).mono ?_
  rintro e w3 ⟨b3, A3, l3, c3, B3, m3, d3, rfl, hs3, hA3, hB3, hb3, _, _⟩
  unfold rv
  go_wp2_with fail
  refine (timesq_any (La := 40) (Lb := 2) _ _ _ _ _ _ _ _ q hs2 (hA2.below hb3) (hB2.below hb3) _ _ _ _ _ _ _ _ hs3 hA3 hB3 (by decide)).mono ?_
  rintro e w4 ⟨b4, A4, l4, c4, B4, m4, d4, rfl, hs4, hA4, hB4, hb4, _, _⟩
  rw [HQ.out] at hs4 hA4 hB4
  unfold rv
  have o4 := heap_last w4 (.cells #[.bool b4, .slice A4 l4 c4, .slice B4 m4 d4] 118)
  have hWa : Below w4.heap.size w4 (w4.alloc (.cells #[.bool b4, .slice A4 l4 c4, .slice B4 m4 d4] 118)) := (Below.refl _ _).alloc (Nat.le_refl _) _
  have O4 := Lib.hid o4
  clear o4
  have hc4 := chain (chain (chain hb1 hb2) hb3) hb4
  have hc4a := chain hc4 hWa
  have hA5 := hA4.below hWa
  have hB5 := hB4.below hWa
  clear hA2 hB2 hA3 hB3 hA4 hB4 hs2 hs3 x1 x2
  go_wp2_with fail
  refine (downq_any (La := 42) _ _ _ _ _ _ _ _ Q hs4 hA5 hB5 (by decide)).mono ?_
  rintro e w5 ⟨b5, A6, l6, c6, rfl, hs5, hA6, hb5, _⟩
  rw [HI.out] at hs5 hA6
  go_wp2_with fail
  refine (told_any _ ((HE.out.toEnv.below hc4a).below hb5) _ _ _ i _ hs5.out hA6 (by decide)).mono ?_
  rintro e w6 ⟨rfl, hb6⟩
  have hc6 := chain (chain hc4a hb5) hb6
  rw [hte]
  go_wp2_with fail
  refine (int_ok _ _ i HVT.out (by omega) (by omega)).mono ?_
  rintro e w7 ⟨rfl, hb7⟩
  by_cases hqi : Q = (i : Rat)
  · have HAR : Hid (s = fitB i i) := by show _ = _; rw [← HS'.out, if_pos hqi]
    have HZ : Hid ((Q - (i : Rat)).num.sign = 0) := (sub_zero_iff _ _).2 hqi
    obtain ⟨sg, hsg⟩ : ∃ sg, (Q - (i : Rat)).num.sign = sg := ⟨_, rfl⟩
    rw [hsg] at HZ
    have HSG := Lib.hid hsg
    clear hsg hqi
    have hz := HZ.out
    obtain ⟨r, hr⟩ : ∃ r, fitB i i = r := ⟨_, rfl⟩
    have HR := Lib.hid hr
    rw [hr] at HAR
    clear hr
    have HO : Hid (∀ w', Below (w4.alloc (.cells #[.bool b4, .slice A4 l4 c4, .slice B4 m4 d4] 118)).heap.size (w4.alloc (.cells #[.bool b4, .slice A4 l4 c4, .slice B4 m4 d4] 118)) w' → w'.cell? ⟨w4.heap.size, 0, none⟩ = some (.bool b4) ∧ w'.cell? ⟨w4.heap.size, 1, none⟩ = some (.slice A4 l4 c4) ∧ w'.cell? ⟨w4.heap.size, 2, none⟩ = some (.slice B4 m4 d4)) := fun w' h => ⟨cell_later O4.out h, cell_later O4.out h, cell_later O4.out h⟩
    have hd0 : Below (w4.alloc (.cells #[.bool b4, .slice A4 l4 c4, .slice B4 m4 d4] 118)).heap.size (w4.alloc (.cells #[.bool b4, .slice A4 l4 c4, .slice B4 m4 d4] 118)) w7.drew := (chain (chain hb5 hb6) hb7).drew
    go_wp2_with fail
    go_region_held3 (fun w' => w'.cell? ⟨w4.heap.size, 0, none⟩ = some (.bool b4) ∧ w'.cell? ⟨w4.heap.size, 1, none⟩ = some (.slice A4 l4 c4) ∧ w'.cell? ⟨w4.heap.size, 2, none⟩ = some (.slice B4 m4 d4))
      (first | with_reducible exact HO.out _ hd0 | with_reducible exact HO.out _ hd1 | with_reducible exact HO.out _ hd2)
      (first
        | (go_at_call 87; (refine (fromq_any _ i (by omega) (by omega)).mono ?_); rintro e w8 ⟨b8, A8, l8, c8, B8, m8, d8, rfl, hs8, hA8, hB8, hb8, _, _⟩; unfold rv; have hd1 := chain hd0 hb8)
        | (go_at_call 91; (refine (orderq_any (La := 42) (Lb := 2) _ _ _ _ _ _ _ _ Q hs4 (hA5.below hd1) (hB5.below hd1) _ _ _ _ _ _ _ (i : Rat) hs8 hA8 hB8 (by decide)).mono ?_); rintro e w9 ⟨rfl, hb9⟩; rw [HSG.out]; have hd2 := chain hd1 hb9))
    go_wp2_with fail
    refine (fits_any _ i i).mono ?_
    rintro e w10 ⟨rfl, hb10⟩
    rw [HR.out]
    have hc10 := chain (chain hc4a hd2) hb10
    have hW1 := chain hW hc10
    have hs := hW1.size
    have y3 := cell_later (j := 0) O2.out hc10
    have y4 := cell_later (j := 1) O2.out hc10
    have g1 := frozen_later O2.out hc10 0
    have g2 := frozen_later O2.out hc10 1
    simp at y3 y4
    go_wp2
    refine bodyPost_ret (v := .tuple #[bandV r.lo r.hi, .int .i64 r.e]) (by simp [results, Tryz.results36, go_sem, y3, y4]) rfl ⟨by rw [HAR.out], (hW1.setCell (by simp <;> omega) _).setCell (by simp <;> omega) _⟩
  · have HAR : Hid (s = fitB i (i + 1)) := by show _ = _; rw [← HS'.out, if_neg hqi]
    have HZ : Hid ((Q - (i : Rat)).num.sign ≠ 0) := fun h => hqi ((sub_zero_iff _ _).1 h)
    obtain ⟨sg, hsg⟩ : ∃ sg, (Q - (i : Rat)).num.sign = sg := ⟨_, rfl⟩
    rw [hsg] at HZ
    have HSG := Lib.hid hsg
    clear hsg hqi
    have hz := HZ.out
    obtain ⟨r, hr⟩ : ∃ r, fitB i (i + 1) = r := ⟨_, rfl⟩
    have HR := Lib.hid hr
    rw [hr] at HAR
    clear hr
    have HO : Hid (∀ w', Below (w4.alloc (.cells #[.bool b4, .slice A4 l4 c4, .slice B4 m4 d4] 118)).heap.size (w4.alloc (.cells #[.bool b4, .slice A4 l4 c4, .slice B4 m4 d4] 118)) w' → w'.cell? ⟨w4.heap.size, 0, none⟩ = some (.bool b4) ∧ w'.cell? ⟨w4.heap.size, 1, none⟩ = some (.slice A4 l4 c4) ∧ w'.cell? ⟨w4.heap.size, 2, none⟩ = some (.slice B4 m4 d4)) := fun w' h => ⟨cell_later O4.out h, cell_later O4.out h, cell_later O4.out h⟩
    have hd0 : Below (w4.alloc (.cells #[.bool b4, .slice A4 l4 c4, .slice B4 m4 d4] 118)).heap.size (w4.alloc (.cells #[.bool b4, .slice A4 l4 c4, .slice B4 m4 d4] 118)) w7.drew := (chain (chain hb5 hb6) hb7).drew
    go_wp2_with fail
    go_region_held3 (fun w' => w'.cell? ⟨w4.heap.size, 0, none⟩ = some (.bool b4) ∧ w'.cell? ⟨w4.heap.size, 1, none⟩ = some (.slice A4 l4 c4) ∧ w'.cell? ⟨w4.heap.size, 2, none⟩ = some (.slice B4 m4 d4))
      (first | with_reducible exact HO.out _ hd0 | with_reducible exact HO.out _ hd1 | with_reducible exact HO.out _ hd2)
      (first
        | (go_at_call 87; (refine (fromq_any _ i (by omega) (by omega)).mono ?_); rintro e w8 ⟨b8, A8, l8, c8, B8, m8, d8, rfl, hs8, hA8, hB8, hb8, _, _⟩; unfold rv; have hd1 := chain hd0 hb8)
        | (go_at_call 91; (refine (orderq_any (La := 42) (Lb := 2) _ _ _ _ _ _ _ _ Q hs4 (hA5.below hd1) (hB5.below hd1) _ _ _ _ _ _ _ (i : Rat) hs8 hA8 hB8 (by decide)).mono ?_); rintro e w9 ⟨rfl, hb9⟩; rw [HSG.out]; have hd2 := chain hd1 hb9))
    go_wp2_with fail
    refine (fits_any _ i (i + 1)).mono ?_
    rintro e w10 ⟨rfl, hb10⟩
    rw [HR.out]
    have hc10 := chain (chain hc4a hd2) hb10
    have hW1 := chain hW hc10
    have hs := hW1.size
    have y3 := cell_later (j := 0) O2.out hc10
    have y4 := cell_later (j := 1) O2.out hc10
    have g1 := frozen_later O2.out hc10 0
    have g2 := frozen_later O2.out hc10 1
    simp at y3 y4
    go_wp2
    refine bodyPost_ret (v := .tuple #[bandV r.lo r.hi, .int .i64 r.e]) (by simp [results, Tryz.results36, go_sem, y3, y4]) rfl ⟨by rw [HAR.out], (hW1.setCell (by simp <;> omega) _).setCell (by simp <;> omega) _⟩

set_option maxHeartbeats 2000000 in
theorem around_big (w : World) (henv : Env2 w) (N D : ByteArray) (q : Rat) (h : VQ N D q) (h0 : 1000000000000000000 < unitsF q) (h1 : unitsF q < 9223372036854775808) (hf : fits (unitsF q) = true) :
    Calls Tryz.prog 36 #[.agg #[.string N, .string D]] w (RetB w (.bad 6)) := by
  obtain ⟨Q, hQ⟩ : ∃ Q, q * ((1000000000000 : Int) : Rat) = Q := ⟨_, rfl⟩
  obtain ⟨i, hi⟩ : ∃ i, unitsF q = i := ⟨_, rfl⟩
  have HI : Hid (Q.num / (Q.den : Int) = i) := by show _ = _; rw [← hi, unitsF, hQ]
  have HQ := Lib.hid hQ
  rw [hi] at h0 h1 hf
  have HVT := Lib.hid (vw_told hf)
  have hte : toldE i = 0 := by rw [toldE, if_pos hf]
  clear hQ hi hf
  have HV := Lib.hid h
  clear h
  have hW : Below w.heap.size w ((w.alloc (.cells #[.string N, .string D] 51)).alloc (.cells #[.int .i64 0, .int .i64 0] 23)) := (((Below.refl w.heap.size w).alloc (Nat.le_refl _) _).alloc (by simp <;> omega) _)
  have o1 := heap_more (heap_last w (.cells #[.string N, .string D] 51)) (.cells #[.int .i64 0, .int .i64 0] 23)
  have O1 := Lib.hid o1
  clear o1
  have o2 := heap_last (w.alloc (.cells #[.string N, .string D] 51)) (.cells #[.int .i64 0, .int .i64 0] 23)
  rw [show (w.alloc (.cells #[.string N, .string D] 51)).heap.size = w.heap.size + 1 by simp] at o2
  have O2 := Lib.hid o2
  clear o2
  have hsz : ((w.alloc (.cells #[.string N, .string D] 51)).alloc (.cells #[.int .i64 0, .int .i64 0] 23)).heap.size = w.heap.size + 1 + 1 := by simp
  have HSZ := Lib.hid hsz
  clear hsz
  have HE := Lib.hid (henv.below hW)
  clear henv
  go_enter Tryz.func36, Tryz.ntmps36
  go_wp2_with fail
  refine (fcheck_ok _ HE.out.toEnv N D q HV.out).mono ?_
  rintro e w1 ⟨rfl, hb1⟩
  have x1 := cell_later (j := 0) O1.out hb1
  have x2 := cell_later (j := 1) O1.out hb1
  simp at x1 x2
  go_wp2_with fail
  refine (readq_any _ N D q HV.out).mono ?_
  rintro e w2 ⟨b2, A2, l2, c2, B2, m2, d2, rfl, hs2, hA2, hB2, hb2, _, _⟩
  unfold rv
  go_wp2_with fail
  refine (fromq_any _ 1000000000000 (by decide) (by decide)).mono ?_
  rintro e w3 ⟨b3, A3, l3, c3, B3, m3, d3, rfl, hs3, hA3, hB3, hb3, _, _⟩
  unfold rv
  go_wp2_with fail
  refine (timesq_any (La := 40) (Lb := 2) _ _ _ _ _ _ _ _ q hs2 (hA2.below hb3) (hB2.below hb3) _ _ _ _ _ _ _ _ hs3 hA3 hB3 (by decide)).mono ?_
  rintro e w4 ⟨b4, A4, l4, c4, B4, m4, d4, rfl, hs4, hA4, hB4, hb4, _, _⟩
  rw [HQ.out] at hs4 hA4 hB4
  unfold rv
  have o4 := heap_last w4 (.cells #[.bool b4, .slice A4 l4 c4, .slice B4 m4 d4] 118)
  have hWa : Below w4.heap.size w4 (w4.alloc (.cells #[.bool b4, .slice A4 l4 c4, .slice B4 m4 d4] 118)) := (Below.refl _ _).alloc (Nat.le_refl _) _
  have O4 := Lib.hid o4
  clear o4
  have hc4 := chain (chain (chain hb1 hb2) hb3) hb4
  have hc4a := chain hc4 hWa
  have hA5 := hA4.below hWa
  have hB5 := hB4.below hWa
  clear hA2 hB2 hA3 hB3 hA4 hB4 hs2 hs3 x1 x2
  go_wp2_with fail
  refine (downq_any (La := 42) _ _ _ _ _ _ _ _ Q hs4 hA5 hB5 (by decide)).mono ?_
  rintro e w5 ⟨b5, A6, l6, c6, rfl, hs5, hA6, hb5, _⟩
  rw [HI.out] at hs5 hA6
  go_wp2_with fail
  refine (told_any _ ((HE.out.toEnv.below hc4a).below hb5) _ _ _ i _ hs5.out hA6 (by decide)).mono ?_
  rintro e w6 ⟨rfl, hb6⟩
  have hc6 := chain (chain hc4a hb5) hb6
  rw [hte]
  go_wp2_with fail
  refine (int_ok _ _ i HVT.out (by omega) (by omega)).mono ?_
  rintro e w7 ⟨rfl, hb7⟩
  have hm2 := fun w ts t x y => run_max2 w ts t x y
  have hmx : max i (-i) = i := by omega
  have hgt : 1000000000000000000 < i := h0
  have hc7 := chain hc6 hb7
  have hW1 := chain hW hc7
  have hs := hW1.size
  have y3 := cell_later (j := 0) O2.out hc7
  have y4 := cell_later (j := 1) O2.out hc7
  have g1 := frozen_later O2.out hc7 0
  have g2 := frozen_later O2.out hc7 1
  simp at y3 y4
  go_wp2
  refine bodyPost_ret (v := .tuple #[bandV 0 0, .int .i64 6]) (by simp [results, Tryz.results36, go_sem, y3, y4]) rfl ⟨rfl, (hW1.setCell (by simp <;> omega) _).setCell (by simp <;> omega) _⟩

set_option maxHeartbeats 2000000 in
theorem around_low (w : World) (henv : Env2 w) (N D : ByteArray) (q : Rat) (h : VQ N D q) (h0 : unitsF q < -1000000000000000000) (h1 : -9223372036854775808 < unitsF q) (hf : fits (unitsF q) = true) :
    Calls Tryz.prog 36 #[.agg #[.string N, .string D]] w (RetB w (.bad 6)) := by
  obtain ⟨Q, hQ⟩ : ∃ Q, q * ((1000000000000 : Int) : Rat) = Q := ⟨_, rfl⟩
  obtain ⟨i, hi⟩ : ∃ i, unitsF q = i := ⟨_, rfl⟩
  have HI : Hid (Q.num / (Q.den : Int) = i) := by show _ = _; rw [← hi, unitsF, hQ]
  have HQ := Lib.hid hQ
  rw [hi] at h0 h1 hf
  have HVT := Lib.hid (vw_told hf)
  have hte : toldE i = 0 := by rw [toldE, if_pos hf]
  clear hQ hi hf
  have HV := Lib.hid h
  clear h
  have hW : Below w.heap.size w ((w.alloc (.cells #[.string N, .string D] 51)).alloc (.cells #[.int .i64 0, .int .i64 0] 23)) := (((Below.refl w.heap.size w).alloc (Nat.le_refl _) _).alloc (by simp <;> omega) _)
  have o1 := heap_more (heap_last w (.cells #[.string N, .string D] 51)) (.cells #[.int .i64 0, .int .i64 0] 23)
  have O1 := Lib.hid o1
  clear o1
  have o2 := heap_last (w.alloc (.cells #[.string N, .string D] 51)) (.cells #[.int .i64 0, .int .i64 0] 23)
  rw [show (w.alloc (.cells #[.string N, .string D] 51)).heap.size = w.heap.size + 1 by simp] at o2
  have O2 := Lib.hid o2
  clear o2
  have hsz : ((w.alloc (.cells #[.string N, .string D] 51)).alloc (.cells #[.int .i64 0, .int .i64 0] 23)).heap.size = w.heap.size + 1 + 1 := by simp
  have HSZ := Lib.hid hsz
  clear hsz
  have HE := Lib.hid (henv.below hW)
  clear henv
  go_enter Tryz.func36, Tryz.ntmps36
  go_wp2_with fail
  refine (fcheck_ok _ HE.out.toEnv N D q HV.out).mono ?_
  rintro e w1 ⟨rfl, hb1⟩
  have x1 := cell_later (j := 0) O1.out hb1
  have x2 := cell_later (j := 1) O1.out hb1
  simp at x1 x2
  go_wp2_with fail
  refine (readq_any _ N D q HV.out).mono ?_
  rintro e w2 ⟨b2, A2, l2, c2, B2, m2, d2, rfl, hs2, hA2, hB2, hb2, _, _⟩
  unfold rv
  go_wp2_with fail
  refine (fromq_any _ 1000000000000 (by decide) (by decide)).mono ?_
  rintro e w3 ⟨b3, A3, l3, c3, B3, m3, d3, rfl, hs3, hA3, hB3, hb3, _, _⟩
  unfold rv
  go_wp2_with fail
  refine (timesq_any (La := 40) (Lb := 2) _ _ _ _ _ _ _ _ q hs2 (hA2.below hb3) (hB2.below hb3) _ _ _ _ _ _ _ _ hs3 hA3 hB3 (by decide)).mono ?_
  rintro e w4 ⟨b4, A4, l4, c4, B4, m4, d4, rfl, hs4, hA4, hB4, hb4, _, _⟩
  rw [HQ.out] at hs4 hA4 hB4
  unfold rv
  have o4 := heap_last w4 (.cells #[.bool b4, .slice A4 l4 c4, .slice B4 m4 d4] 118)
  have hWa : Below w4.heap.size w4 (w4.alloc (.cells #[.bool b4, .slice A4 l4 c4, .slice B4 m4 d4] 118)) := (Below.refl _ _).alloc (Nat.le_refl _) _
  have O4 := Lib.hid o4
  clear o4
  have hc4 := chain (chain (chain hb1 hb2) hb3) hb4
  have hc4a := chain hc4 hWa
  have hA5 := hA4.below hWa
  have hB5 := hB4.below hWa
  clear hA2 hB2 hA3 hB3 hA4 hB4 hs2 hs3 x1 x2
  go_wp2_with fail
  refine (downq_any (La := 42) _ _ _ _ _ _ _ _ Q hs4 hA5 hB5 (by decide)).mono ?_
  rintro e w5 ⟨b5, A6, l6, c6, rfl, hs5, hA6, hb5, _⟩
  rw [HI.out] at hs5 hA6
  go_wp2_with fail
  refine (told_any _ ((HE.out.toEnv.below hc4a).below hb5) _ _ _ i _ hs5.out hA6 (by decide)).mono ?_
  rintro e w6 ⟨rfl, hb6⟩
  have hc6 := chain (chain hc4a hb5) hb6
  rw [hte]
  go_wp2_with fail
  refine (int_ok _ _ i HVT.out (by omega) (by omega)).mono ?_
  rintro e w7 ⟨rfl, hb7⟩
  have hm2 := fun w ts t x y => run_max2 w ts t x y
  have hmx : max i (-i) = -i := by omega
  have hgt : 1000000000000000000 < -i := by omega
  have hc7 := chain hc6 hb7
  have hW1 := chain hW hc7
  have hs := hW1.size
  have y3 := cell_later (j := 0) O2.out hc7
  have y4 := cell_later (j := 1) O2.out hc7
  have g1 := frozen_later O2.out hc7 0
  have g2 := frozen_later O2.out hc7 1
  simp at y3 y4
  go_wp2
  refine bodyPost_ret (v := .tuple #[bandV 0 0, .int .i64 6]) (by simp [results, Tryz.results36, go_sem, y3, y4]) rfl ⟨rfl, (hW1.setCell (by simp <;> omega) _).setCell (by simp <;> omega) _⟩

set_option maxHeartbeats 2000000 in
theorem around_far (w : World) (henv : Env2 w) (N D : ByteArray) (q : Rat) (h : VQ N D q) (h0 : unitsF q < -9223372036854775808 ∨ 9223372036854775808 ≤ unitsF q) (hf : fits (unitsF q) = true) :
    Calls Tryz.prog 36 #[.agg #[.string N, .string D]] w (RetB w (.bad 6)) := by
  obtain ⟨Q, hQ⟩ : ∃ Q, q * ((1000000000000 : Int) : Rat) = Q := ⟨_, rfl⟩
  obtain ⟨i, hi⟩ : ∃ i, unitsF q = i := ⟨_, rfl⟩
  have HI : Hid (Q.num / (Q.den : Int) = i) := by show _ = _; rw [← hi, unitsF, hQ]
  have HQ := Lib.hid hQ
  rw [hi] at h0 hf
  have HVT := Lib.hid (vw_told hf)
  have hte : toldE i = 0 := by rw [toldE, if_pos hf]
  clear hQ hi hf
  have HV := Lib.hid h
  clear h
  have hW : Below w.heap.size w ((w.alloc (.cells #[.string N, .string D] 51)).alloc (.cells #[.int .i64 0, .int .i64 0] 23)) := (((Below.refl w.heap.size w).alloc (Nat.le_refl _) _).alloc (by simp <;> omega) _)
  have o1 := heap_more (heap_last w (.cells #[.string N, .string D] 51)) (.cells #[.int .i64 0, .int .i64 0] 23)
  have O1 := Lib.hid o1
  clear o1
  have o2 := heap_last (w.alloc (.cells #[.string N, .string D] 51)) (.cells #[.int .i64 0, .int .i64 0] 23)
  rw [show (w.alloc (.cells #[.string N, .string D] 51)).heap.size = w.heap.size + 1 by simp] at o2
  have O2 := Lib.hid o2
  clear o2
  have hsz : ((w.alloc (.cells #[.string N, .string D] 51)).alloc (.cells #[.int .i64 0, .int .i64 0] 23)).heap.size = w.heap.size + 1 + 1 := by simp
  have HSZ := Lib.hid hsz
  clear hsz
  have HE := Lib.hid (henv.below hW)
  clear henv
  go_enter Tryz.func36, Tryz.ntmps36
  go_wp2_with fail
  refine (fcheck_ok _ HE.out.toEnv N D q HV.out).mono ?_
  rintro e w1 ⟨rfl, hb1⟩
  have x1 := cell_later (j := 0) O1.out hb1
  have x2 := cell_later (j := 1) O1.out hb1
  simp at x1 x2
  go_wp2_with fail
  refine (readq_any _ N D q HV.out).mono ?_
  rintro e w2 ⟨b2, A2, l2, c2, B2, m2, d2, rfl, hs2, hA2, hB2, hb2, _, _⟩
  unfold rv
  go_wp2_with fail
  refine (fromq_any _ 1000000000000 (by decide) (by decide)).mono ?_
  rintro e w3 ⟨b3, A3, l3, c3, B3, m3, d3, rfl, hs3, hA3, hB3, hb3, _, _⟩
  unfold rv
  go_wp2_with fail
  refine (timesq_any (La := 40) (Lb := 2) _ _ _ _ _ _ _ _ q hs2 (hA2.below hb3) (hB2.below hb3) _ _ _ _ _ _ _ _ hs3 hA3 hB3 (by decide)).mono ?_
  rintro e w4 ⟨b4, A4, l4, c4, B4, m4, d4, rfl, hs4, hA4, hB4, hb4, _, _⟩
  rw [HQ.out] at hs4 hA4 hB4
  unfold rv
  have o4 := heap_last w4 (.cells #[.bool b4, .slice A4 l4 c4, .slice B4 m4 d4] 118)
  have hWa : Below w4.heap.size w4 (w4.alloc (.cells #[.bool b4, .slice A4 l4 c4, .slice B4 m4 d4] 118)) := (Below.refl _ _).alloc (Nat.le_refl _) _
  have O4 := Lib.hid o4
  clear o4
  have hc4 := chain (chain (chain hb1 hb2) hb3) hb4
  have hc4a := chain hc4 hWa
  have hA5 := hA4.below hWa
  have hB5 := hB4.below hWa
  clear hA2 hB2 hA3 hB3 hA4 hB4 hs2 hs3 x1 x2
  go_wp2_with fail
  refine (downq_any (La := 42) _ _ _ _ _ _ _ _ Q hs4 hA5 hB5 (by decide)).mono ?_
  rintro e w5 ⟨b5, A6, l6, c6, rfl, hs5, hA6, hb5, _⟩
  rw [HI.out] at hs5 hA6
  go_wp2_with fail
  refine (told_any _ ((HE.out.toEnv.below hc4a).below hb5) _ _ _ i _ hs5.out hA6 (by decide)).mono ?_
  rintro e w6 ⟨rfl, hb6⟩
  have hc6 := chain (chain hc4a hb5) hb6
  rw [hte]
  go_wp2_with fail
  refine (int_far _ ((HE.out.below hc6)) _ i HVT.out (by omega)).mono ?_
  rintro e w7 ⟨rfl, hb7⟩
  have hc7 := chain hc6 hb7
  have hW1 := chain hW hc7
  have hs := hW1.size
  have y3 := cell_later (j := 0) O2.out hc7
  have y4 := cell_later (j := 1) O2.out hc7
  have g1 := frozen_later O2.out hc7 0
  have g2 := frozen_later O2.out hc7 1
  simp at y3 y4
  go_wp2
  refine bodyPost_ret (v := .tuple #[bandV 0 0, .int .i64 6]) (by simp [results, Tryz.results36, go_sem, y3, y4]) rfl ⟨rfl, (hW1.setCell (by simp <;> omega) _).setCell (by simp <;> omega) _⟩

set_option maxHeartbeats 2000000 in
theorem around_none (w : World) (henv : Env2 w) (N D : ByteArray) (q : Rat) (h : VQ N D q) (hf : fits (unitsF q) = false) :
    Calls Tryz.prog 36 #[.agg #[.string N, .string D]] w (RetB w (.bad 6)) := by
  obtain ⟨Q, hQ⟩ : ∃ Q, q * ((1000000000000 : Int) : Rat) = Q := ⟨_, rfl⟩
  obtain ⟨i, hi⟩ : ∃ i, unitsF q = i := ⟨_, rfl⟩
  have HI : Hid (Q.num / (Q.den : Int) = i) := by show _ = _; rw [← hi, unitsF, hQ]
  have HQ := Lib.hid hQ
  rw [hi] at hf
  have hts : toldS i = ⟨#[]⟩ := by rw [toldS, hf]; rfl
  have hte : toldE i = 6 := by rw [toldE, hf]; rfl
  clear hQ hi hf
  have HV := Lib.hid h
  clear h
  have hW : Below w.heap.size w ((w.alloc (.cells #[.string N, .string D] 51)).alloc (.cells #[.int .i64 0, .int .i64 0] 23)) := (((Below.refl w.heap.size w).alloc (Nat.le_refl _) _).alloc (by simp <;> omega) _)
  have o1 := heap_more (heap_last w (.cells #[.string N, .string D] 51)) (.cells #[.int .i64 0, .int .i64 0] 23)
  have O1 := Lib.hid o1
  clear o1
  have o2 := heap_last (w.alloc (.cells #[.string N, .string D] 51)) (.cells #[.int .i64 0, .int .i64 0] 23)
  rw [show (w.alloc (.cells #[.string N, .string D] 51)).heap.size = w.heap.size + 1 by simp] at o2
  have O2 := Lib.hid o2
  clear o2
  have hsz : ((w.alloc (.cells #[.string N, .string D] 51)).alloc (.cells #[.int .i64 0, .int .i64 0] 23)).heap.size = w.heap.size + 1 + 1 := by simp
  have HSZ := Lib.hid hsz
  clear hsz
  have HE := Lib.hid (henv.below hW)
  clear henv
  go_enter Tryz.func36, Tryz.ntmps36
  go_wp2_with fail
  refine (fcheck_ok _ HE.out.toEnv N D q HV.out).mono ?_
  rintro e w1 ⟨rfl, hb1⟩
  have x1 := cell_later (j := 0) O1.out hb1
  have x2 := cell_later (j := 1) O1.out hb1
  simp at x1 x2
  go_wp2_with fail
  refine (readq_any _ N D q HV.out).mono ?_
  rintro e w2 ⟨b2, A2, l2, c2, B2, m2, d2, rfl, hs2, hA2, hB2, hb2, _, _⟩
  unfold rv
  go_wp2_with fail
  refine (fromq_any _ 1000000000000 (by decide) (by decide)).mono ?_
  rintro e w3 ⟨b3, A3, l3, c3, B3, m3, d3, rfl, hs3, hA3, hB3, hb3, _, _⟩
  unfold rv
  go_wp2_with fail
  refine (timesq_any (La := 40) (Lb := 2) _ _ _ _ _ _ _ _ q hs2 (hA2.below hb3) (hB2.below hb3) _ _ _ _ _ _ _ _ hs3 hA3 hB3 (by decide)).mono ?_
  rintro e w4 ⟨b4, A4, l4, c4, B4, m4, d4, rfl, hs4, hA4, hB4, hb4, _, _⟩
  rw [HQ.out] at hs4 hA4 hB4
  unfold rv
  have o4 := heap_last w4 (.cells #[.bool b4, .slice A4 l4 c4, .slice B4 m4 d4] 118)
  have hWa : Below w4.heap.size w4 (w4.alloc (.cells #[.bool b4, .slice A4 l4 c4, .slice B4 m4 d4] 118)) := (Below.refl _ _).alloc (Nat.le_refl _) _
  have O4 := Lib.hid o4
  clear o4
  have hc4 := chain (chain (chain hb1 hb2) hb3) hb4
  have hc4a := chain hc4 hWa
  have hA5 := hA4.below hWa
  have hB5 := hB4.below hWa
  clear hA2 hB2 hA3 hB3 hA4 hB4 hs2 hs3 x1 x2
  go_wp2_with fail
  refine (downq_any (La := 42) _ _ _ _ _ _ _ _ Q hs4 hA5 hB5 (by decide)).mono ?_
  rintro e w5 ⟨b5, A6, l6, c6, rfl, hs5, hA6, hb5, _⟩
  rw [HI.out] at hs5 hA6
  go_wp2_with fail
  refine (told_any _ ((HE.out.toEnv.below hc4a).below hb5) _ _ _ i _ hs5.out hA6 (by decide)).mono ?_
  rintro e w6 ⟨rfl, hb6⟩
  have hc6 := chain (chain hc4a hb5) hb6
  rw [hte, hts]
  go_wp2_with fail
  refine (int_none _).mono ?_
  rintro e w7 ⟨rfl, hb7⟩
  have hc7 := chain hc6 hb7
  have hW1 := chain hW hc7
  have hs := hW1.size
  have y3 := cell_later (j := 0) O2.out hc7
  have y4 := cell_later (j := 1) O2.out hc7
  have g1 := frozen_later O2.out hc7 0
  have g2 := frozen_later O2.out hc7 1
  simp at y3 y4
  go_wp2
  refine bodyPost_ret (v := .tuple #[bandV 0 0, .int .i64 6]) (by simp [results, Tryz.results36, go_sem, y3, y4]) rfl ⟨rfl, (hW1.setCell (by simp <;> omega) _).setCell (by simp <;> omega) _⟩

end Go.Proofs.YtkajibniibjblaaGreatDoor
