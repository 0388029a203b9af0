/-
  band.Around at any two strings.
  band.Has at an invalid band, and at an invalid fraction.
  The law's Two.pairs, and cut.
-/
import Derived.Test.YtkajibniibjblaaGreatDoorHas
import Derived.Test.YtkajibniibjblaaGreatDoorRef5
import Derived.Test.YtkajibniibjblaaGreatDoorDrafts
namespace Go.Proofs.YtkajibniibjblaaGreatDoor
open Go.RowKit
set_option maxRecDepth 100000

set_option maxHeartbeats 4000000 in
theorem around_min (w : World) (henv : Env2 w) (N D : ByteArray) (q : Rat) (h : VQ N D q) (hm : unitsF q = -9223372036854775808) :
    Calls Tryz.prog 36 #[.agg #[.string N, .string D]] w (RetB w (.bad 6)) := by
  obtain ⟨s, hs⟩ : ∃ s, BR.bad 6 = s := ⟨_, rfl⟩
  rw [hs]
  obtain ⟨Q, hQ⟩ : ∃ Q, q * ((1000000000000 : Int) : Rat) = Q := ⟨_, rfl⟩
  have HI : Hid (Q.num / (Q.den : Int) = -9223372036854775808) := by show _ = _; rw [← hm, unitsF, hQ]
  have HQ := Lib.hid hQ
  have hs' : (if Q = ((-9223372036854775808 : Int) : Rat) then fitB (-9223372036854775808) (-9223372036854775808) else fitB (-9223372036854775808) (-9223372036854775807)) = s := by
    rw [← hs]
    split <;> rfl
  clear hs
  have hf : fits (-9223372036854775808) = true := fits_i64 (by decide) (by decide)
  have HVT := Lib.hid (vw_told hf)
  have hte : toldE (-9223372036854775808) = 0 := by rw [toldE, if_pos hf]
  clear hQ hf hm
  have hwm : wrap64 9223372036854775808 = -9223372036854775808 := by unfold wrap64; omega
  have HS' := Lib.hid hs'
  clear hs'

  have HV := Lib.hid h
  clear h
  have hW : Below w.heap.size w ((w.alloc (.cells #[.string N, .string D] 51)).alloc (.cells #[.int .i64 0, .int .i64 0] 23)) := (((Below.refl w.heap.size w).alloc (Nat.le_refl _) _).alloc (by simp <;> omega) _)
  have o1 := heap_more (heap_last w (.cells #[.string N, .string D] 51)) (.cells #[.int .i64 0, .int .i64 0] 23)
  have O1 := Lib.hid o1
  clear o1
  have o2 := heap_last (w.alloc (.cells #[.string N, .string D] 51)) (.cells #[.int .i64 0, .int .i64 0] 23)
  rw [show (w.alloc (.cells #[.string N, .string D] 51)).heap.size = w.heap.size + 1 by simp] at o2
  have O2 := Lib.hid o2
  clear o2
  have hsz : ((w.alloc (.cells #[.string N, .string D] 51)).alloc (.cells #[.int .i64 0, .int .i64 0] 23)).heap.size = w.heap.size + 1 + 1 := by simp
  have HSZ := Lib.hid hsz
  clear hsz
  have HE := Lib.hid (henv.below hW)
  clear henv
  go_enter Tryz.func36, Tryz.ntmps36
  go_wp2_with fail
  refine (fcheck_ok _ HE.out.toEnv N D q HV.out).mono ?_
  rintro e w1 ⟨rfl, hb1⟩
  have x1 := cell_later (j := 0) O1.out hb1
  have x2 := cell_later (j := 1) O1.out hb1
  simp at x1 x2
  go_wp2_with fail
  refine (readq_any _ N D q HV.out).mono ?_
  rintro e w2 ⟨b2, A2, l2, c2, B2, m2, d2, rfl, hs2, hA2, hB2, hb2, _, _⟩
  unfold rv
  go_wp2_with fail
  refine (fromq_any _ 1000000000000 (by decide) (by decide)).mono ?_
  rintro e w3 ⟨b3, A3, l3, c3, B3, m3, d3, rfl, hs3, hA3, hB3, hb3, _, _⟩
  unfold rv
  go_wp2_with fail
  refine (timesq_any (La := 40) (Lb := 2) _ _ _ _ _ _ _ _ q hs2 (hA2.below hb3) (hB2.below hb3) _ _ _ _ _ _ _ _ hs3 hA3 hB3 (by decide)).mono ?_
  rintro e w4 ⟨b4, A4, l4, c4, B4, m4, d4, rfl, hs4, hA4, hB4, hb4, _, _⟩
  rw [HQ.out] at hs4 hA4 hB4
  unfold rv
  have o4 := heap_last w4 (.cells #[.bool b4, .slice A4 l4 c4, .slice B4 m4 d4] 118)
  have hWa : Below w4.heap.size w4 (w4.alloc (.cells #[.bool b4, .slice A4 l4 c4, .slice B4 m4 d4] 118)) := (Below.refl _ _).alloc (Nat.le_refl _) _
  have O4 := Lib.hid o4
  clear o4
  have hc4 := chain (chain (chain hb1 hb2) hb3) hb4
  have hc4a := chain hc4 hWa
  have hA5 := hA4.below hWa
  have hB5 := hB4.below hWa
  clear hA2 hB2 hA3 hB3 hA4 hB4 hs2 hs3 x1 x2
  go_wp2_with fail
  refine (downq_any (La := 42) _ _ _ _ _ _ _ _ Q hs4 hA5 hB5 (by decide)).mono ?_
  rintro e w5 ⟨b5, A6, l6, c6, rfl, hs5, hA6, hb5, _⟩
  rw [HI.out] at hs5 hA6
  go_wp2_with fail
  refine (told_any _ ((HE.out.toEnv.below hc4a).below hb5) _ _ _ (-9223372036854775808) _ hs5.out hA6 (by decide)).mono ?_
  rintro e w6 ⟨rfl, hb6⟩
  have hc6 := chain (chain hc4a hb5) hb6
  rw [hte]
  go_wp2_with fail
  refine (int_ok _ _ (-9223372036854775808) HVT.out (by omega) (by omega)).mono ?_
  rintro e w7 ⟨rfl, hb7⟩
  by_cases hqi : Q = ((-9223372036854775808 : Int) : Rat)
  · have HAR : Hid (s = fitB (-9223372036854775808) (-9223372036854775808)) := by show _ = _; rw [← HS'.out, if_pos hqi]
    have HZ : Hid ((Q - ((-9223372036854775808 : Int) : Rat)).num.sign = 0) := (sub_zero_iff _ _).2 hqi
    obtain ⟨sg, hsg⟩ : ∃ sg, (Q - ((-9223372036854775808 : Int) : Rat)).num.sign = sg := ⟨_, rfl⟩
    rw [hsg] at HZ
    have HSG := Lib.hid hsg
    clear hsg hqi
    have hz := HZ.out
    obtain ⟨r, hr⟩ : ∃ r, fitB (-9223372036854775808) (-9223372036854775808) = r := ⟨_, rfl⟩
    have HR := Lib.hid hr
    rw [hr] at HAR
    clear hr
    have HO : Hid (∀ w', Below (w4.alloc (.cells #[.bool b4, .slice A4 l4 c4, .slice B4 m4 d4] 118)).heap.size (w4.alloc (.cells #[.bool b4, .slice A4 l4 c4, .slice B4 m4 d4] 118)) w' → w'.cell? ⟨w4.heap.size, 0, none⟩ = some (.bool b4) ∧ w'.cell? ⟨w4.heap.size, 1, none⟩ = some (.slice A4 l4 c4) ∧ w'.cell? ⟨w4.heap.size, 2, none⟩ = some (.slice B4 m4 d4)) := fun w' h => ⟨cell_later O4.out h, cell_later O4.out h, cell_later O4.out h⟩
    have hd0 : Below (w4.alloc (.cells #[.bool b4, .slice A4 l4 c4, .slice B4 m4 d4] 118)).heap.size (w4.alloc (.cells #[.bool b4, .slice A4 l4 c4, .slice B4 m4 d4] 118)) w7.drew := (chain (chain hb5 hb6) hb7).drew
    go_wp2_with fail
    go_region_held3 (fun w' => w'.cell? ⟨w4.heap.size, 0, none⟩ = some (.bool b4) ∧ w'.cell? ⟨w4.heap.size, 1, none⟩ = some (.slice A4 l4 c4) ∧ w'.cell? ⟨w4.heap.size, 2, none⟩ = some (.slice B4 m4 d4))
      (first | with_reducible exact HO.out _ hd0 | with_reducible exact HO.out _ hd1 | with_reducible exact HO.out _ hd2)
      (first
        | (go_at_call 87; (refine (fromq_any _ (-9223372036854775808) (by omega) (by omega)).mono ?_); rintro e w8 ⟨b8, A8, l8, c8, B8, m8, d8, rfl, hs8, hA8, hB8, hb8, _, _⟩; unfold rv; have hd1 := chain hd0 hb8)
        | (go_at_call 91; (refine (orderq_any (La := 42) (Lb := 2) _ _ _ _ _ _ _ _ Q hs4 (hA5.below hd1) (hB5.below hd1) _ _ _ _ _ _ _ ((-9223372036854775808 : Int) : Rat) hs8 hA8 hB8 (by decide)).mono ?_); rintro e w9 ⟨rfl, hb9⟩; rw [HSG.out]; have hd2 := chain hd1 hb9))
    go_wp2_with fail
    refine (fits_any _ (-9223372036854775808) (-9223372036854775808)).mono ?_
    rintro e w10 ⟨rfl, hb10⟩
    rw [HR.out]
    have hc10 := chain (chain hc4a hd2) hb10
    have hW1 := chain hW hc10
    have hs := hW1.size
    have y3 := cell_later (j := 0) O2.out hc10
    have y4 := cell_later (j := 1) O2.out hc10
    have g1 := frozen_later O2.out hc10 0
    have g2 := frozen_later O2.out hc10 1
    simp at y3 y4
    go_wp2
    refine bodyPost_ret (v := .tuple #[bandV r.lo r.hi, .int .i64 r.e]) (by simp [results, Tryz.results36, go_sem, y3, y4]) rfl ⟨by rw [HAR.out], (hW1.setCell (by simp <;> omega) _).setCell (by simp <;> omega) _⟩
  · have HAR : Hid (s = fitB (-9223372036854775808) (-9223372036854775807)) := by show _ = _; rw [← HS'.out, if_neg hqi]
    have HZ : Hid ((Q - ((-9223372036854775808 : Int) : Rat)).num.sign ≠ 0) := fun h => hqi ((sub_zero_iff _ _).1 h)
    obtain ⟨sg, hsg⟩ : ∃ sg, (Q - ((-9223372036854775808 : Int) : Rat)).num.sign = sg := ⟨_, rfl⟩
    rw [hsg] at HZ
    have HSG := Lib.hid hsg
    clear hsg hqi
    have hz := HZ.out
    obtain ⟨r, hr⟩ : ∃ r, fitB (-9223372036854775808) (-9223372036854775807) = r := ⟨_, rfl⟩
    have HR := Lib.hid hr
    rw [hr] at HAR
    clear hr
    have HO : Hid (∀ w', Below (w4.alloc (.cells #[.bool b4, .slice A4 l4 c4, .slice B4 m4 d4] 118)).heap.size (w4.alloc (.cells #[.bool b4, .slice A4 l4 c4, .slice B4 m4 d4] 118)) w' → w'.cell? ⟨w4.heap.size, 0, none⟩ = some (.bool b4) ∧ w'.cell? ⟨w4.heap.size, 1, none⟩ = some (.slice A4 l4 c4) ∧ w'.cell? ⟨w4.heap.size, 2, none⟩ = some (.slice B4 m4 d4)) := fun w' h => ⟨cell_later O4.out h, cell_later O4.out h, cell_later O4.out h⟩
    have hd0 : Below (w4.alloc (.cells #[.bool b4, .slice A4 l4 c4, .slice B4 m4 d4] 118)).heap.size (w4.alloc (.cells #[.bool b4, .slice A4 l4 c4, .slice B4 m4 d4] 118)) w7.drew := (chain (chain hb5 hb6) hb7).drew
    go_wp2_with fail
    go_region_held3 (fun w' => w'.cell? ⟨w4.heap.size, 0, none⟩ = some (.bool b4) ∧ w'.cell? ⟨w4.heap.size, 1, none⟩ = some (.slice A4 l4 c4) ∧ w'.cell? ⟨w4.heap.size, 2, none⟩ = some (.slice B4 m4 d4))
      (first | with_reducible exact HO.out _ hd0 | with_reducible exact HO.out _ hd1 | with_reducible exact HO.out _ hd2)
      (first
        | (go_at_call 87; (refine (fromq_any _ (-9223372036854775808) (by omega) (by omega)).mono ?_); rintro e w8 ⟨b8, A8, l8, c8, B8, m8, d8, rfl, hs8, hA8, hB8, hb8, _, _⟩; unfold rv; have hd1 := chain hd0 hb8)
        | (go_at_call 91; (refine (orderq_any (La := 42) (Lb := 2) _ _ _ _ _ _ _ _ Q hs4 (hA5.below hd1) (hB5.below hd1) _ _ _ _ _ _ _ ((-9223372036854775808 : Int) : Rat) hs8 hA8 hB8 (by decide)).mono ?_); rintro e w9 ⟨rfl, hb9⟩; rw [HSG.out]; have hd2 := chain hd1 hb9))
    go_wp2_with fail
    refine (fits_any _ (-9223372036854775808) (-9223372036854775807)).mono ?_
    rintro e w10 ⟨rfl, hb10⟩
    rw [HR.out]
    have hc10 := chain (chain hc4a hd2) hb10
    have hW1 := chain hW hc10
    have hs := hW1.size
    have y3 := cell_later (j := 0) O2.out hc10
    have y4 := cell_later (j := 1) O2.out hc10
    have g1 := frozen_later O2.out hc10 0
    have g2 := frozen_later O2.out hc10 1
    simp at y3 y4
    go_wp2
    refine bodyPost_ret (v := .tuple #[bandV r.lo r.hi, .int .i64 r.e]) (by simp [results, Tryz.results36, go_sem, y3, y4]) rfl ⟨by rw [HAR.out], (hW1.setCell (by simp <;> omega) _).setCell (by simp <;> omega) _⟩

theorem around_any (w : World) (henv : Env2 w) (N D : ByteArray) (q : Rat) (h : VQ N D q) :
    Calls Tryz.prog 36 #[.agg #[.string N, .string D]] w (RetB w (aroundB q)) := by
  by_cases h1 : -1000000000000000000 ≤ unitsF q ∧ unitsF q ≤ 1000000000000000000
  · exact around_in w henv N D q h h1.1 h1.2 (fits_i64 (by omega) (by omega))
  · have hb : aroundB q = .bad 6 := by rw [aroundB, if_neg h1]
    rw [hb]
    cases hf : fits (unitsF q) with
    | false => exact around_none w henv N D q h hf
    | true =>
      by_cases h2 : unitsF q < -9223372036854775808 ∨ 9223372036854775808 ≤ unitsF q
      · exact around_far w henv N D q h h2 hf
      · by_cases h3 : 1000000000000000000 < unitsF q
        · exact around_big w henv N D q h h3 (by omega) hf
        · by_cases h4 : unitsF q = -9223372036854775808
          · exact around_min w henv N D q h h4
          · exact around_low w henv N D q h (by omega) (by omega) hf
theorem around_bad (w : World) (henv : Env2 w) (N D : ByteArray) (h : ¬ ∃ q, VQ N D q) :
    Calls Tryz.prog 36 #[.agg #[.string N, .string D]] w (RetB w (.bad 20)) := by
  have hW : Below w.heap.size w ((w.alloc (.cells #[.string N, .string D] 51)).alloc (.cells #[.int .i64 0, .int .i64 0] 23)) := (((Below.refl w.heap.size w).alloc (Nat.le_refl _) _).alloc (by simp <;> omega) _)
  have o1 := heap_more (heap_last w (.cells #[.string N, .string D] 51)) (.cells #[.int .i64 0, .int .i64 0] 23)
  have O1 := Lib.hid o1
  clear o1
  have o2 := heap_last (w.alloc (.cells #[.string N, .string D] 51)) (.cells #[.int .i64 0, .int .i64 0] 23)
  rw [show (w.alloc (.cells #[.string N, .string D] 51)).heap.size = w.heap.size + 1 by simp] at o2
  have O2 := Lib.hid o2
  clear o2
  have hsz : ((w.alloc (.cells #[.string N, .string D] 51)).alloc (.cells #[.int .i64 0, .int .i64 0] 23)).heap.size = w.heap.size + 1 + 1 := by simp
  have HSZ := Lib.hid hsz
  clear hsz
  obtain ⟨wB, hwB⟩ : ∃ x, ((w.alloc (.cells #[.string N, .string D] 51)).alloc (.cells #[.int .i64 0, .int .i64 0] 23)) = x := ⟨_, rfl⟩
  rw [hwB] at hW HSZ O1 O2
  have c0 := cell_later (j := 0) O1.out (Below.refl _ _)
  have c1 := cell_later (j := 1) O1.out (Below.refl _ _)
  simp at c0 c1
  go_enter Tryz.func36, Tryz.ntmps36
  go_wp2_with fail
  try rw [hwB]
  refine (fcheck_bad _ (henv.below hW).toEnv N D h).mono ?_
  rintro e w1 ⟨rfl, hb1⟩
  have r0 := cell_later (j := 0) O2.out hb1
  have r1 := cell_later (j := 1) O2.out hb1
  have rf0 := frozen_later O2.out hb1 0
  have rf1 := frozen_later O2.out hb1 1
  simp at r0 r1
  have hWF := chain hW hb1
  have hs3 := hWF.size
  go_wp2_with fail
  refine bodyPost_ret (v := .tuple #[bandV 0 0, .int .i64 20]) (by simp [results, Tryz.results36, go_sem, r0, r1]) rfl ⟨rfl, ?_⟩
  repeat (first | with_reducible exact hWF | (with_reducible refine Below.setCell ?_ (by first | omega | (simp <;> omega)) _))
end Go.Proofs.YtkajibniibjblaaGreatDoor

namespace Go.Proofs.YtkajibniibjblaaGreatDoor
open Go.RowKit
set_option maxRecDepth 100000

theorem hasclo_bad (w : World) (henv : Env2 w) (pa : Nat) (Ta : TypeId) (N D : ByteArray) (hpa : Hid (Blk w pa #[.string N, .string D] Ta)) (h : ¬ ∃ q, VQ N D q) (p2 : Value) :
    Calls Tryz.prog 96 #[.pointer (some ⟨pa, 0, none⟩), p2] w (RetH w false 20) := by
  have c0 : w.cell? ⟨pa, 0, none⟩ = some (.string N) := cell_later (w1 := w) hpa.out (Below.refl _ _)
  have c1 : w.cell? ⟨pa, 1, none⟩ = some (.string D) := cell_later (w1 := w) hpa.out (Below.refl _ _)
  have HE := Lib.hid henv
  clear henv
  go_enter Tryz.func96, Tryz.ntmps96
  go_wp2_with fail
  refine (fcheck_bad _ HE.out.toEnv N D h).mono ?_
  rintro e w1 ⟨rfl, hb1⟩
  go_wp2
  go_ret2
  exact ⟨rfl, hb1⟩
theorem has_bad (w : World) (henv : Env2 w) (lo hi : Int) (N D : ByteArray) (hok : okB lo hi = true) (h : ¬ ∃ q, VQ N D q) :
    Calls Tryz.prog 38 #[bandV lo hi, .agg #[.string N, .string D]] w (RetH w false 20) := by
  have hmf : ∀ (fn : Fn) (first cap : Array Value) (w : World), (Instr.makeFunc fn first cap).run Tryz.prog w = .ok (.func fn first cap) w := fun _ _ _ _ => rfl
  have HK := Lib.hid hok
  have hW : Below w.heap.size w (((w.alloc (.cells #[.int .i64 lo, .int .i64 hi] 23)).alloc (.cells #[.string N, .string D] 51)).alloc (.cells #[.int .i64 lo, .int .i64 hi] 23)) := ((((Below.refl w.heap.size w).alloc (Nat.le_refl _) _).alloc (by simp <;> omega) _).alloc (by simp <;> omega) _)
  have o1 := heap_more (heap_more (heap_last w (.cells #[.int .i64 lo, .int .i64 hi] 23)) (.cells #[.string N, .string D] 51)) (.cells #[.int .i64 lo, .int .i64 hi] 23)
  have O1 := Lib.hid o1
  clear o1
  have o2 := heap_more (heap_last (w.alloc (.cells #[.int .i64 lo, .int .i64 hi] 23)) (.cells #[.string N, .string D] 51)) (.cells #[.int .i64 lo, .int .i64 hi] 23)
  rw [show (w.alloc (.cells #[.int .i64 lo, .int .i64 hi] 23)).heap.size = w.heap.size + 1 by simp] at o2
  have O2 := Lib.hid o2
  clear o2
  have o3 := heap_last ((w.alloc (.cells #[.int .i64 lo, .int .i64 hi] 23)).alloc (.cells #[.string N, .string D] 51)) (.cells #[.int .i64 lo, .int .i64 hi] 23)
  rw [show ((w.alloc (.cells #[.int .i64 lo, .int .i64 hi] 23)).alloc (.cells #[.string N, .string D] 51)).heap.size = w.heap.size + 1 + 1 by simp] at o3
  have O3 := Lib.hid o3
  clear o3
  have hsz : (((w.alloc (.cells #[.int .i64 lo, .int .i64 hi] 23)).alloc (.cells #[.string N, .string D] 51)).alloc (.cells #[.int .i64 lo, .int .i64 hi] 23)).heap.size = w.heap.size + 1 + 1 + 1 := by simp
  have HSZ := Lib.hid hsz
  clear hsz
  have HE := Lib.hid (henv.below hW)
  clear henv
  go_enter Tryz.func38, Tryz.ntmps38
  go_wp2_with fail
  refine (checkedH1_any 96 (fun _ _ => by kernel_rfl) #[.pointer (some ⟨w.heap.size + 1, 0, none⟩), .pointer (some ⟨w.heap.size, 0, none⟩)] _ (w.heap.size + 1 + 1) lo hi 23 (Lib.hid O3.out) false 20 (fun hk w' hb' => hasclo_bad w' (HE.out.below hb') _ _ N D (Lib.hid (blk_later O2.out hb')) h _)).mono ?_
  rintro e w1 ⟨rfl, hb1⟩
  rw [HK.out]
  have hW1 := chain hW hb1
  go_wp2
  go_ret2
  exact ⟨rfl, hW1⟩
theorem has_band (w : World) (henv : Env2 w) (lo hi : Int) (N D : ByteArray) (hok : okB lo hi = false) :
    Calls Tryz.prog 38 #[bandV lo hi, .agg #[.string N, .string D]] w (RetH w false 30) := by
  have hmf : ∀ (fn : Fn) (first cap : Array Value) (w : World), (Instr.makeFunc fn first cap).run Tryz.prog w = .ok (.func fn first cap) w := fun _ _ _ _ => rfl
  have HK := Lib.hid hok
  have hW : Below w.heap.size w (((w.alloc (.cells #[.int .i64 lo, .int .i64 hi] 23)).alloc (.cells #[.string N, .string D] 51)).alloc (.cells #[.int .i64 lo, .int .i64 hi] 23)) := ((((Below.refl w.heap.size w).alloc (Nat.le_refl _) _).alloc (by simp <;> omega) _).alloc (by simp <;> omega) _)
  have o1 := heap_more (heap_more (heap_last w (.cells #[.int .i64 lo, .int .i64 hi] 23)) (.cells #[.string N, .string D] 51)) (.cells #[.int .i64 lo, .int .i64 hi] 23)
  have O1 := Lib.hid o1
  clear o1
  have o2 := heap_more (heap_last (w.alloc (.cells #[.int .i64 lo, .int .i64 hi] 23)) (.cells #[.string N, .string D] 51)) (.cells #[.int .i64 lo, .int .i64 hi] 23)
  rw [show (w.alloc (.cells #[.int .i64 lo, .int .i64 hi] 23)).heap.size = w.heap.size + 1 by simp] at o2
  have O2 := Lib.hid o2
  clear o2
  have o3 := heap_last ((w.alloc (.cells #[.int .i64 lo, .int .i64 hi] 23)).alloc (.cells #[.string N, .string D] 51)) (.cells #[.int .i64 lo, .int .i64 hi] 23)
  rw [show ((w.alloc (.cells #[.int .i64 lo, .int .i64 hi] 23)).alloc (.cells #[.string N, .string D] 51)).heap.size = w.heap.size + 1 + 1 by simp] at o3
  have O3 := Lib.hid o3
  clear o3
  have hsz : (((w.alloc (.cells #[.int .i64 lo, .int .i64 hi] 23)).alloc (.cells #[.string N, .string D] 51)).alloc (.cells #[.int .i64 lo, .int .i64 hi] 23)).heap.size = w.heap.size + 1 + 1 + 1 := by simp
  have HSZ := Lib.hid hsz
  clear hsz
  have HE := Lib.hid (henv.below hW)
  clear henv
  go_enter Tryz.func38, Tryz.ntmps38
  go_wp2_with fail
  refine (checkedH1_any 96 (fun _ _ => by kernel_rfl) #[.pointer (some ⟨w.heap.size + 1, 0, none⟩), .pointer (some ⟨w.heap.size, 0, none⟩)] _ (w.heap.size + 1 + 1) lo hi 23 (Lib.hid O3.out) false 0 (fun hk w' hb' => absurd (hok.symm.trans hk) (by decide))).mono ?_
  rintro e w1 ⟨rfl, hb1⟩
  rw [HK.out]
  have hW1 := chain hW hb1
  go_wp2
  go_ret2
  exact ⟨rfl, hW1⟩
end Go.Proofs.YtkajibniibjblaaGreatDoor

namespace Go.Proofs.YtkajibniibjblaaGreatDoor
open Go.RowKit
set_option maxRecDepth 100000

theorem build4 (W : World) (a b c d : Int) : (Instr.build 32 #[(0, .agg #[.int .i64 a, .int .i64 b]), (1, .agg #[.int .i64 c, .int .i64 d])]).run Tryz.prog W = .ok (.agg #[.int .i64 a, .int .i64 b, .int .i64 c, .int .i64 d]) W := by kernel_rfl
set_option maxHeartbeats 4000000 in
theorem pairs_any (w : World) (a0 a1 b0 b1 ax ux ay uy : Int) (hx0 : -9223372036854775808 ≤ ax) (hx1 : ax ≤ 9223372036854775807) (hx2 : 0 ≤ ux) (hx3 : ux ≤ 4294967295) (hy0 : -9223372036854775808 ≤ ay) (hy1 : ay ≤ 9223372036854775807) (hy2 : 0 ≤ uy) (hy3 : uy ≤ 4294967295) :
    Calls Tryz.prog 10 #[.agg #[.int .i64 a0, .int .i64 a1, .int .i64 b0, .int .i64 b1, .int .i64 ax, .int .u32 ux, .int .i64 ay, .int .u32 uy]] w fun e w' => ∃ g, ∃ l : List Int, e = .returned (.slice (some ⟨g, 0, none⟩) 5 5) ∧ (∀ i, i < 20 → w'.cell? ⟨g, i, none⟩ = some (.int .i64 (l.getD i 0))) ∧ Below w.heap.size w w' := by
  have hW : Below w.heap.size w (w.alloc (.cells #[.int .i64 a0, .int .i64 a1, .int .i64 b0, .int .i64 b1, .int .i64 ax, .int .u32 ux, .int .i64 ay, .int .u32 uy] 28)) := ((Below.refl w.heap.size w).alloc (Nat.le_refl _) _)
  have o1 := heap_last w (.cells #[.int .i64 a0, .int .i64 a1, .int .i64 b0, .int .i64 b1, .int .i64 ax, .int .u32 ux, .int .i64 ay, .int .u32 uy] 28)
  have O1 := Lib.hid o1
  clear o1
  have hsz : (w.alloc (.cells #[.int .i64 a0, .int .i64 a1, .int .i64 b0, .int .i64 b1, .int .i64 ax, .int .u32 ux, .int .i64 ay, .int .u32 uy] 28)).heap.size = w.heap.size + 1 := by simp
  have HSZ := Lib.hid hsz
  clear hsz
  obtain ⟨wB, hwB⟩ : ∃ x, (w.alloc (.cells #[.int .i64 a0, .int .i64 a1, .int .i64 b0, .int .i64 b1, .int .i64 ax, .int .u32 ux, .int .i64 ay, .int .u32 uy] 28)) = x := ⟨_, rfl⟩
  rw [hwB] at hW HSZ O1
  have hLE : w.heap.size + 1 ≤ wB.heap.size := by rw [HSZ.out]; omega
  have HS : Hid (∀ w', Below (w.heap.size + 1) wB w' → w'.cell? ⟨w.heap.size, 0, none⟩ = some (.int .i64 a0) ∧ w'.cell? ⟨w.heap.size, 1, none⟩ = some (.int .i64 a1) ∧ w'.cell? ⟨w.heap.size, 2, none⟩ = some (.int .i64 b0) ∧ w'.cell? ⟨w.heap.size, 3, none⟩ = some (.int .i64 b1) ∧ w'.cell? ⟨w.heap.size, 4, none⟩ = some (.int .i64 ax) ∧ w'.cell? ⟨w.heap.size, 5, none⟩ = some (.int .u32 ux) ∧ w'.cell? ⟨w.heap.size, 6, none⟩ = some (.int .i64 ay) ∧ w'.cell? ⟨w.heap.size, 7, none⟩ = some (.int .u32 uy)) := fun w' h => ⟨cell_at (j := 0) O1.out (by omega) h, cell_at (j := 1) O1.out (by omega) h, cell_at (j := 2) O1.out (by omega) h, cell_at (j := 3) O1.out (by omega) h, cell_at (j := 4) O1.out (by omega) h, cell_at (j := 5) O1.out (by omega) h, cell_at (j := 6) O1.out (by omega) h, cell_at (j := 7) O1.out (by omega) h⟩
  have hbd := build4
  have hd0 : Below wB.heap.size wB wB.drew := (Below.refl _ _).drew
  go_enter Tryz.func10, Tryz.ntmps10
  go_wp2_with fail
  try rw [hwB]
  go_region_held3 (fun w' => w'.cell? ⟨w.heap.size, 0, none⟩ = some (.int .i64 a0) ∧ w'.cell? ⟨w.heap.size, 1, none⟩ = some (.int .i64 a1) ∧ w'.cell? ⟨w.heap.size, 2, none⟩ = some (.int .i64 b0) ∧ w'.cell? ⟨w.heap.size, 3, none⟩ = some (.int .i64 b1) ∧ w'.cell? ⟨w.heap.size, 4, none⟩ = some (.int .i64 ax) ∧ w'.cell? ⟨w.heap.size, 5, none⟩ = some (.int .u32 ux) ∧ w'.cell? ⟨w.heap.size, 6, none⟩ = some (.int .i64 ay) ∧ w'.cell? ⟨w.heap.size, 7, none⟩ = some (.int .u32 uy))
    ((refine HS.out _ ?_; repeat (first | with_reducible exact Below.mono hd0 hLE | with_reducible exact Below.mono hd1 hLE | with_reducible exact Below.mono hd2 hLE | with_reducible exact Below.mono hd3 hLE | with_reducible exact Below.mono hd4 hLE | with_reducible exact Below.mono hd5 hLE | with_reducible exact Below.mono hd6 hLE | with_reducible exact Below.mono hd7 hLE | (with_reducible refine Below.setCell ?_ (by first | omega | (simp <;> omega)) _) | (with_reducible refine Below.alloc ?_ (by first | omega | (simp <;> omega)) _) | with_reducible exact Below.refl _ _ | with_reducible refine Below.drew ?_)))
    (first
      | (go_at_call 41; (fail_if_success (have hq := hd1)); (refine (draft_any _ ax ux hx0 hx1 hx2 hx3).mono ?_); rintro e v1 ⟨p1, q1, rfl, hP1, hb1⟩; have hd1 := chain hd0 hb1)
      | (go_at_call 41; (fail_if_success (have hq := hd2)); (refine (draft_any _ ay uy hy0 hy1 hy2 hy3).mono ?_); rintro e v2 ⟨p2, q2, rfl, hP2, hb2⟩; have hd2 := chain hd1 hb2)
      | (go_at_call 20; (fail_if_success (have hq := hd3)); (refine (small_any _ ax ux hx0 hx1 hx2 hx3).mono ?_); rintro e v3 ⟨p3, q3, rfl, hP3, hb3⟩; have hd3 := chain hd2 hb3)
      | (go_at_call 20; (fail_if_success (have hq := hd4)); (refine (small_any _ ay uy hy0 hy1 hy2 hy3).mono ?_); rintro e v4 ⟨p4, q4, rfl, hP4, hb4⟩; have hd4 := chain hd3 hb4)
      | (go_at_call 41; (fail_if_success (have hq := hd5)); (refine (draft_any _ ax ux hx0 hx1 hx2 hx3).mono ?_); rintro e v5 ⟨p5, q5, rfl, hP5, hb5⟩; have hd5 := chain hd4 hb5)
      | (go_at_call 55; (fail_if_success (have hq := hd6)); (refine (unit_any _ ay uy hy0 hy1 hy2 hy3).mono ?_); rintro e v6 ⟨p6, q6, rfl, hP6, hb6⟩; have hd6 := chain hd5 hb6)
      | (go_at_call 55; (refine (unit_any _ ax ux hx0 hx1 hx2 hx3).mono ?_); rintro e v7 ⟨p7, q7, rfl, hP7, hb7⟩; have hd7 := chain hd6 hb7; have hz7 : w.heap.size + 1 ≤ v7.heap.size := Nat.le_trans hLE hd7.size))
  have hWE := chain hW hd7
  go_wp2_with fail
  go_ret
  refine ⟨v7.heap.size, [a0, a1, b0, b1, p1, q1, p2, q2, p3, q3, p4, q4, p5, q5, p6, q6, p7, q7, b0, b1], rfl, ?_, hWE.alloc (by have := hWE.size; omega) _⟩
  intro i hi
  rw [World.cell?_alloc_new]
  match i, hi with
  | 0, _ => exact rfl
  | 1, _ => exact rfl
  | 2, _ => exact rfl
  | 3, _ => exact rfl
  | 4, _ => exact rfl
  | 5, _ => exact rfl
  | 6, _ => exact rfl
  | 7, _ => exact rfl
  | 8, _ => exact rfl
  | 9, _ => exact rfl
  | 10, _ => exact rfl
  | 11, _ => exact rfl
  | 12, _ => exact rfl
  | 13, _ => exact rfl
  | 14, _ => exact rfl
  | 15, _ => exact rfl
  | 16, _ => exact rfl
  | 17, _ => exact rfl
  | 18, _ => exact rfl
  | 19, _ => exact rfl
  | (i + 20), h => exact absurd h (by omega)
theorem cut_any (w : World) (N D : ByteArray) :
    Calls Tryz.prog 32 #[.agg #[.string N, .string D]] w fun e w' => ∃ N' D' : ByteArray, e = .returned (.agg #[.string N', .string D']) ∧ Hid (N'.size ≤ 1000000 ∧ D'.size ≤ 1000000) ∧ Below w.heap.size w w' := by
  have hW : Below w.heap.size w ((w.alloc (.cells #[.string N, .string D] 51)).alloc (.cells #[.string ⟨#[]⟩, .string ⟨#[]⟩] 51)) := (((Below.refl w.heap.size w).alloc (Nat.le_refl _) _).alloc (by simp <;> omega) _)
  have o1 := heap_more (heap_last w (.cells #[.string N, .string D] 51)) (.cells #[.string ⟨#[]⟩, .string ⟨#[]⟩] 51)
  have O1 := Lib.hid o1
  clear o1
  have o2 := heap_last (w.alloc (.cells #[.string N, .string D] 51)) (.cells #[.string ⟨#[]⟩, .string ⟨#[]⟩] 51)
  rw [show (w.alloc (.cells #[.string N, .string D] 51)).heap.size = w.heap.size + 1 by simp] at o2
  have O2 := Lib.hid o2
  clear o2
  have hsz : ((w.alloc (.cells #[.string N, .string D] 51)).alloc (.cells #[.string ⟨#[]⟩, .string ⟨#[]⟩] 51)).heap.size = w.heap.size + 1 + 1 := by simp
  have HSZ := Lib.hid hsz
  clear hsz
  obtain ⟨wB, hwB⟩ : ∃ x, ((w.alloc (.cells #[.string N, .string D] 51)).alloc (.cells #[.string ⟨#[]⟩, .string ⟨#[]⟩] 51)) = x := ⟨_, rfl⟩
  rw [hwB] at hW HSZ O1 O2
  have hmi := fun w ts t x y => run_min2 w ts t x y
  obtain ⟨k1, hk1⟩ : ∃ k : Nat, min (N.size : Int) 620 = (k : Int) := ⟨min N.size 620, by omega⟩
  obtain ⟨k2, hk2⟩ : ∃ k : Nat, min (D.size : Int) 620 = (k : Int) := ⟨min D.size 620, by omega⟩
  have g1 : (k1 : Int) ≤ (N.size : Int) := by omega
  have g2 : (k2 : Int) ≤ (D.size : Int) := by omega
  have l1 : k1 ≤ 620 := by omega
  have l2 : k2 ≤ 620 := by omega
  obtain ⟨SN, hSN⟩ : ∃ S, N.extract 0 k1 = S := ⟨_, rfl⟩
  obtain ⟨SD, hSD⟩ : ∃ S, D.extract 0 k2 = S := ⟨_, rfl⟩
  have HSZ2 : Hid (SN.size ≤ 1000000 ∧ SD.size ≤ 1000000) := by show _ ∧ _; rw [← hSN, ← hSD, ByteArray.size_extract, ByteArray.size_extract]; omega
  have c0 := cell_later (j := 0) O1.out (Below.refl _ _)
  have c1 := cell_later (j := 1) O1.out (Below.refl _ _)
  have r0 := cell_later (j := 0) O2.out (Below.refl _ _)
  have r1 := cell_later (j := 1) O2.out (Below.refl _ _)
  have rf0 := frozen_later O2.out (Below.refl _ _) 0
  have rf1 := frozen_later O2.out (Below.refl _ _) 1
  simp at r0 r1
  simp at c0 c1
  have hLE : w.heap.size + 1 ≤ wB.heap.size := by rw [HSZ.out]; omega
  have HS : Hid (∀ w', Below (w.heap.size + 1) wB w' → w'.cell? ⟨w.heap.size, 0, none⟩ = some (.string N) ∧ w'.cell? ⟨w.heap.size, 1, none⟩ = some (.string D)) := fun w' h => ⟨cell_at (j := 0) O1.out (by omega) h, cell_at (j := 1) O1.out (by omega) h⟩
  have hd0 : Below wB.heap.size wB wB.drew := (Below.refl _ _).drew
  go_enter Tryz.func32, Tryz.ntmps32
  go_wp2_with fail
  try rw [hwB]
  go_region_held3 (fun w' => w'.cell? ⟨w.heap.size, 0, none⟩ = some (.string N) ∧ w'.cell? ⟨w.heap.size, 1, none⟩ = some (.string D))
    ((refine HS.out _ ?_; repeat (first | with_reducible exact Below.mono hd0 hLE | (with_reducible refine Below.setCell ?_ (by first | omega | (simp <;> omega)) _) | (with_reducible refine Below.alloc ?_ (by first | omega | (simp <;> omega)) _) | with_reducible exact Below.refl _ _ | with_reducible refine Below.drew ?_)))
    (first
      | (fail))
  all_goals (
    go_wp2_with fail
    refine bodyPost_ret (v := .agg #[.string SN, .string SD]) (by simp [results, Tryz.results32, go_sem]; go_simp) rfl ⟨SN, SD, rfl, HSZ2, ?_⟩
    repeat (first | with_reducible exact hW | (with_reducible refine Below.setCell ?_ (by first | omega | (simp <;> omega)) _) | with_reducible refine Below.drew ?_))
end Go.Proofs.YtkajibniibjblaaGreatDoor
