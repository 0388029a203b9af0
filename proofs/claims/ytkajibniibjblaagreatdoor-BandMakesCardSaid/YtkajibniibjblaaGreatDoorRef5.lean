/-
  frac.Check at any two strings.
  ref02.Right at any two strings.
  ref03's Right, Check, Of, Point, Value; band.Point.
  ref03's Tight at one number, Around, Has.
  ref03.Has.
  ref01.Raised.
  ref02.Lowest with a denominator below zero.
-/
import Derived.Test.YtkajibniibjblaaGreatDoorFracA
import Derived.Test.YtkajibniibjblaaGreatDoorRef4
import Derived.Test.YtkajibniibjblaaGreatDoorBand15
import Derived.Test.YtkajibniibjblaaGreatDoorHas
namespace Go.Proofs.YtkajibniibjblaaGreatDoor
open Go.RowKit
set_option maxRecDepth 100000

theorem itoa_inj' {y z : Int} (h : Lib.itoa y = Lib.itoa z) : y = z := by
  have hd : Lib.decDigits y.natAbs = Lib.decDigits z.natAbs := by rw [← trim_itoa y, ← trim_itoa z, h]
  have hn : y.natAbs = z.natAbs := by rw [← dval_decDigits y.natAbs, hd, dval_decDigits]
  have hy : ∀ x : Int, x < 0 → (Lib.itoa x).head? = some 45 := fun x hx => by rw [Lib.itoa, if_pos hx]; rfl
  have hz : ∀ x : Int, ¬ x < 0 → (Lib.itoa x).head? ≠ some 45 := fun x hx => by rw [Lib.itoa, if_neg hx]; exact decDigits_head_minus _
  by_cases a : y < 0
  · by_cases b : z < 0
    · omega
    · exact absurd (h ▸ hy y a) (hz z b)
  · by_cases b : z < 0
    · exact absurd (h.symm ▸ hy z b) (hz y a)
    · omega
theorem told_one {g : Nat} (h : g ≠ 1) : ¬ (toldS (g : Int)).toList = [49] := by
  intro e
  rw [Lib.toList_data, toldS] at e
  split at e
  · have e' : Lib.itoa (g : Int) = [49] := by simpa using e
    rw [itoa_nat] at e'
    have := dval_decDigits g
    rw [e'] at this
    exact h this.symm
  · simp at e
theorem vq_of {N D : ByteArray} {y z : Int} (hN : VW N y) (hD : VW D z) (hz : 0 < z) (hg : Nat.gcd y.natAbs z.natAbs = 1) : ∃ q, VQ N D q := by
  obtain ⟨d, rfl⟩ := Int.eq_ofNat_of_zero_le (Int.le_of_lt hz)
  rw [Int.natAbs_natCast] at hg
  obtain ⟨q1, q2, q3⟩ := norm_num y d (by omega)
  rw [hg, Nat.div_one] at q1 q2
  have e1 : (mkRat y d).num = y := by
    have : (decide ((mkRat y d).num < 0)) = decide (y < 0) := q3
    rw [decide_eq_decide] at this
    omega
  exact ⟨mkRat y d, by rw [e1]; exact hN, by rw [q2]; exact hD⟩
theorem vq_gcd {N D : ByteArray} {q : Rat} (h : VQ N D q) {y z : Int} (hN : VW N y) (hD : VW D z) : 0 < z ∧ Nat.gcd y.natAbs z.natAbs = 1 := by
  have e1 : y = q.num := by
    have := hN.text.symm.trans h.num.text
    exact itoa_inj' this
  have e2 : z = q.den := by
    have := hD.text.symm.trans h.den.text
    exact itoa_inj' this
  subst e1 e2
  exact ⟨by have := q.den_pos; omega, by rw [Int.natAbs_natCast]; exact q.reduced⟩
theorem den_zero {D : ByteArray} (h : VW D 0) : D.toList = [48] := by
  rw [Lib.toList_data, h.text]
  simp [Lib.itoa, Lib.decDigits]
theorem den_neg {D : ByteArray} {z : Int} (h : VW D z) (hz : z < 0) : (¬ D.toList = [48]) ∧ ∃ h0 : 0 < D.size, (D[0]'h0).toNat = 45 := by
  have hl := h.text
  rw [Lib.itoa, if_pos hz] at hl
  have h0 : 0 < D.size := by
    have : D.size = D.data.toList.length := rfl
    rw [this, hl]; simp
  refine ⟨?_, h0, ?_⟩
  · rw [Lib.toList_data, hl]
    intro e
    injection e with e _
    exact absurd e (by decide)
  · rw [first_byte D h0 (x := 45) (by rw [hl]; rfl)]
    rfl
theorem wokE_bad {s : ByteArray} (h : ¬ wok s = true) : wokE s = 10 := by rw [wokE, if_neg h]

theorem fcheck_n (w : World) (henv : Env w) (N D : ByteArray) (h : ¬ wok N = true) :
    Calls Tryz.prog 84 #[.agg #[.string N, .string D]] w fun e w' => e = .returned (.int .i64 20) ∧ Below w.heap.size w w' := by
  have e1 := wokE_bad h
  clear h
  have hW : Below w.heap.size w (w.alloc (.cells #[.string N, .string D] 51)) := ((Below.refl w.heap.size w).alloc (Nat.le_refl _) _)
  have o1 := heap_last w (.cells #[.string N, .string D] 51)
  have O1 := Lib.hid o1
  clear o1
  have hsz : (w.alloc (.cells #[.string N, .string D] 51)).heap.size = w.heap.size + 1 := by simp
  have HSZ := Lib.hid hsz
  clear hsz
  have hE := henv.below hW
  have HE := Lib.hid hE
  clear hE henv
  go_enter Tryz.func84, Tryz.ntmps84
  go_wp2_with fail
  refine (check_any _ N).mono ?_
  rintro e w1 ⟨rfl, hb1⟩
  rw [e1]
  go_wp2
  go_ret
  exact ⟨rfl, chain hW hb1⟩
theorem fcheck_d (w : World) (henv : Env w) (N D : ByteArray) {y : Int} (hN : VW N y) (h : ¬ wok D = true) :
    Calls Tryz.prog 84 #[.agg #[.string N, .string D]] w fun e w' => e = .returned (.int .i64 20) ∧ Below w.heap.size w w' := by
  have e1 := hN.ok
  have e2 := wokE_bad h
  clear h
  have hW : Below w.heap.size w (w.alloc (.cells #[.string N, .string D] 51)) := ((Below.refl w.heap.size w).alloc (Nat.le_refl _) _)
  have o1 := heap_last w (.cells #[.string N, .string D] 51)
  have O1 := Lib.hid o1
  clear o1
  have hsz : (w.alloc (.cells #[.string N, .string D] 51)).heap.size = w.heap.size + 1 := by simp
  have HSZ := Lib.hid hsz
  clear hsz
  have hE := henv.below hW
  have HE := Lib.hid hE
  clear hE henv
  go_enter Tryz.func84, Tryz.ntmps84
  go_wp2_with fail
  refine (check_any _ N).mono ?_
  rintro e w1 ⟨rfl, hb1⟩
  rw [e1]
  have x1 := cell_later (j := 1) O1.out hb1
  simp at x1
  go_wp2_with fail
  refine (check_any _ D).mono ?_
  rintro e w2 ⟨rfl, hb2⟩
  rw [e2]
  have hb12 := chain hb1 hb2
  go_wp2
  go_ret
  exact ⟨rfl, chain hW hb12⟩
theorem fcheck_z (w : World) (henv : Env w) (N D : ByteArray) {y : Int} (hN : VW N y) (hD : VW D 0) :
    Calls Tryz.prog 84 #[.agg #[.string N, .string D]] w fun e w' => e = .returned (.int .i64 20) ∧ Below w.heap.size w w' := by
  have e1 := hN.ok
  have e2 := hD.ok
  have d4 := den_zero hD
  have hW : Below w.heap.size w (w.alloc (.cells #[.string N, .string D] 51)) := ((Below.refl w.heap.size w).alloc (Nat.le_refl _) _)
  have o1 := heap_last w (.cells #[.string N, .string D] 51)
  have O1 := Lib.hid o1
  clear o1
  have hsz : (w.alloc (.cells #[.string N, .string D] 51)).heap.size = w.heap.size + 1 := by simp
  have HSZ := Lib.hid hsz
  clear hsz
  have hE := henv.below hW
  have HE := Lib.hid hE
  clear hE henv
  go_enter Tryz.func84, Tryz.ntmps84
  go_wp2_with fail
  refine (check_any _ N).mono ?_
  rintro e w1 ⟨rfl, hb1⟩
  rw [e1]
  have x1 := cell_later (j := 1) O1.out hb1
  simp at x1
  go_wp2_with fail
  refine (check_any _ D).mono ?_
  rintro e w2 ⟨rfl, hb2⟩
  rw [e2]
  have hb12 := chain hb1 hb2
  have x2 := cell_later (j := 0) O1.out hb12
  have x3 := cell_later (j := 1) O1.out hb12
  simp at x2 x3
  clear x1
  go_wp2
  go_ret
  exact ⟨rfl, chain hW hb12⟩
theorem fcheck_s (w : World) (henv : Env w) (N D : ByteArray) {y z : Int} (hN : VW N y) (hD : VW D z) (hz : z < 0) :
    Calls Tryz.prog 84 #[.agg #[.string N, .string D]] w fun e w' => e = .returned (.int .i64 20) ∧ Below w.heap.size w w' := by
  have e1 := hN.ok
  have e2 := hD.ok
  obtain ⟨d4, d2, d3⟩ := den_neg hD hz
  have d5 : (((D[0]'d2).toNat : Int) == 45) = true := by simp; omega
  have hW : Below w.heap.size w (w.alloc (.cells #[.string N, .string D] 51)) := ((Below.refl w.heap.size w).alloc (Nat.le_refl _) _)
  have o1 := heap_last w (.cells #[.string N, .string D] 51)
  have O1 := Lib.hid o1
  clear o1
  have hsz : (w.alloc (.cells #[.string N, .string D] 51)).heap.size = w.heap.size + 1 := by simp
  have HSZ := Lib.hid hsz
  clear hsz
  have hE := henv.below hW
  have HE := Lib.hid hE
  clear hE henv
  go_enter Tryz.func84, Tryz.ntmps84
  go_wp2_with fail
  refine (check_any _ N).mono ?_
  rintro e w1 ⟨rfl, hb1⟩
  rw [e1]
  have x1 := cell_later (j := 1) O1.out hb1
  simp at x1
  go_wp2_with fail
  refine (check_any _ D).mono ?_
  rintro e w2 ⟨rfl, hb2⟩
  rw [e2]
  have hb12 := chain hb1 hb2
  have x2 := cell_later (j := 0) O1.out hb12
  have x3 := cell_later (j := 1) O1.out hb12
  simp at x2 x3
  clear x1
  go_wp2
  go_ret
  exact ⟨rfl, chain hW hb12⟩
theorem fcheck_g (w : World) (henv : Env w) (N D : ByteArray) {y z : Int} (hN : VW N y) (hD : VW D z) (hz : 0 < z) (hg : Nat.gcd y.natAbs z.natAbs ≠ 1) :
    Calls Tryz.prog 84 #[.agg #[.string N, .string D]] w fun e w' => e = .returned (.int .i64 20) ∧ Below w.heap.size w w' := by
  have e1 := hN.ok
  have e2 := hD.ok
  obtain ⟨zn, rfl⟩ := Int.eq_ofNat_of_zero_le (Int.le_of_lt hz)
  obtain ⟨d1, d2, d3⟩ := den_text (b := zn) (by omega) hD.text
  have d4 : ¬ D.toList = [48] := by
    rw [Lib.toList_data]
    intro h
    exact d1 (by rcases D with ⟨⟨l⟩⟩; simp at h; rw [h])
  have d5 : (((D[0]'d2).toNat : Int) == 45) = false := by simp; omega
  obtain ⟨T, hT⟩ : ∃ T, toldS ((Nat.gcd y.natAbs ((zn : Int)).natAbs : Nat) : Int) = T := ⟨_, rfl⟩
  have hT1 : (T.toList == [49]) = false := by rw [beq_eq_false_iff_ne, ← hT]; exact told_one hg
  have HT := Lib.hid hT
  clear d1 hg hT
  have hW : Below w.heap.size w (w.alloc (.cells #[.string N, .string D] 51)) := ((Below.refl w.heap.size w).alloc (Nat.le_refl _) _)
  have o1 := heap_last w (.cells #[.string N, .string D] 51)
  have O1 := Lib.hid o1
  clear o1
  have hsz : (w.alloc (.cells #[.string N, .string D] 51)).heap.size = w.heap.size + 1 := by simp
  have HSZ := Lib.hid hsz
  clear hsz
  have hE := henv.below hW
  have HE := Lib.hid hE
  clear hE henv
  go_enter Tryz.func84, Tryz.ntmps84
  go_wp2_with fail
  refine (check_any _ N).mono ?_
  rintro e w1 ⟨rfl, hb1⟩
  rw [e1]
  have x1 := cell_later (j := 1) O1.out hb1
  simp at x1
  go_wp2_with fail
  refine (check_any _ D).mono ?_
  rintro e w2 ⟨rfl, hb2⟩
  rw [e2]
  have hb12 := chain hb1 hb2
  have x2 := cell_later (j := 0) O1.out hb12
  have x3 := cell_later (j := 1) O1.out hb12
  simp at x2 x3
  clear x1
  go_wp2_with fail
  refine (gcd_any _ (HE.out.below hb12) N D y (zn : Int) hN hD).mono ?_
  rintro e w3 ⟨rfl, hb3⟩
  rw [HT.out]
  obtain ⟨ge, hge⟩ : ∃ x, toldE ((Nat.gcd y.natAbs ((zn : Int)).natAbs : Nat) : Int) = x := ⟨_, rfl⟩
  rw [hge]
  go_wp2
  go_ret
  exact ⟨rfl, chain (chain hW hb12) hb3⟩
theorem fcheck_bad (w : World) (henv : Env w) (N D : ByteArray) (h : ¬ ∃ q, VQ N D q) :
    Calls Tryz.prog 84 #[.agg #[.string N, .string D]] w fun e w' => e = .returned (.int .i64 20) ∧ Below w.heap.size w w' := by
  by_cases h1 : wok N = true
  · obtain ⟨y, hN⟩ := wok_vw h1
    by_cases h2 : wok D = true
    · obtain ⟨z, hD⟩ := wok_vw h2
      rcases Int.lt_trichotomy z 0 with hz | rfl | hz
      · exact fcheck_s w henv N D hN hD hz
      · exact fcheck_z w henv N D hN hD
      · exact fcheck_g w henv N D hN hD hz (fun hg => h (vq_of hN hD hz hg))
    · exact fcheck_d w henv N D hN h2
  · exact fcheck_n w henv N D h1
end Go.Proofs.YtkajibniibjblaaGreatDoor

namespace Go.Proofs.YtkajibniibjblaaGreatDoor.P4
open Go.RowKit
set_option maxRecDepth 100000

theorem vw_wok {s : ByteArray} {z : Int} (h : VW s z) : wok s = true := wok_itoa z h.fits_ s h.text
theorem vw_size {s : ByteArray} {z : Int} (h : VW s z) : s.size ≤ 1000000 := by
  have hn6 : Lib.nDigits z.natAbs ≤ 600 := by simpa [fits] using h.fits_
  have hl := itoa_len z
  have : s.size = s.data.toList.length := rfl
  rw [this, h.text, hl]
  split <;> omega
theorem rright_n (w : World) (N D : ByteArray) (h : wok N = false) (hsN : N.size ≤ 1000000) :
    Calls Tryz.prog 92 #[.agg #[.string N, .string D]] w fun e w' => e = .returned (.bool false) ∧ Below w.heap.size w w' := by
  have hW : Below w.heap.size w (w.alloc (.cells #[.string N, .string D] 51)) := ((Below.refl w.heap.size w).alloc (Nat.le_refl _) _)
  have o1 := heap_last w (.cells #[.string N, .string D] 51)
  have O1 := Lib.hid o1
  clear o1
  have hsz : (w.alloc (.cells #[.string N, .string D] 51)).heap.size = w.heap.size + 1 := by simp
  have HSZ := Lib.hid hsz
  clear hsz
  obtain ⟨wB, hwB⟩ : ∃ x, (w.alloc (.cells #[.string N, .string D] 51)) = x := ⟨_, rfl⟩
  rw [hwB] at hW HSZ O1
  have e1 := h
  clear h
  have c0 := cell_later (j := 0) O1.out (Below.refl _ _)
  have c1 := cell_later (j := 1) O1.out (Below.refl _ _)
  simp at c0 c1
  go_enter Tryz.func92, Tryz.ntmps92
  go_wp2_with fail
  try rw [hwB]
  refine (right_any _ N hsN).mono ?_
  rintro e w1 ⟨rfl, hb1⟩
  rw [e1]
  go_wp2
  go_ret
  exact ⟨rfl, chain hW hb1⟩

theorem rright_d (w : World) (N D : ByteArray) {y : Int} (hN : VW N y) (h : wok D = false) (hsD : D.size ≤ 1000000) :
    Calls Tryz.prog 92 #[.agg #[.string N, .string D]] w fun e w' => e = .returned (.bool false) ∧ Below w.heap.size w w' := by
  have hW : Below w.heap.size w (w.alloc (.cells #[.string N, .string D] 51)) := ((Below.refl w.heap.size w).alloc (Nat.le_refl _) _)
  have o1 := heap_last w (.cells #[.string N, .string D] 51)
  have O1 := Lib.hid o1
  clear o1
  have hsz : (w.alloc (.cells #[.string N, .string D] 51)).heap.size = w.heap.size + 1 := by simp
  have HSZ := Lib.hid hsz
  clear hsz
  obtain ⟨wB, hwB⟩ : ∃ x, (w.alloc (.cells #[.string N, .string D] 51)) = x := ⟨_, rfl⟩
  rw [hwB] at hW HSZ O1
  have e1 := vw_wok hN
  have hsN := vw_size hN
  have e2 := h
  clear h
  have c0 := cell_later (j := 0) O1.out (Below.refl _ _)
  have c1 := cell_later (j := 1) O1.out (Below.refl _ _)
  simp at c0 c1
  go_enter Tryz.func92, Tryz.ntmps92
  go_wp2_with fail
  try rw [hwB]
  refine (right_any _ N hsN).mono ?_
  rintro e w1 ⟨rfl, hb1⟩
  rw [e1]
  have x0 := cell_later (j := 0) O1.out hb1
  have x1 := cell_later (j := 1) O1.out hb1
  simp at x0 x1
  go_wp2_with fail
  refine (right_any _ D hsD).mono ?_
  rintro e w2 ⟨rfl, hb2⟩
  rw [e2]
  have hb12 := chain hb1 hb2
  go_wp2
  go_ret
  exact ⟨rfl, chain hW hb12⟩

theorem rright_v (w : World) (N D : ByteArray) {y z : Int} (hN : VW N y) (hD : VW D z) (bb : Bool) (hbb : Hid (bb = decide (0 < z ∧ Nat.gcd y.natAbs z.natAbs = 1))) :
    Calls Tryz.prog 92 #[.agg #[.string N, .string D]] w fun e w' => e = .returned (.bool bb) ∧ Below w.heap.size w w' := by
  have hW : Below w.heap.size w (w.alloc (.cells #[.string N, .string D] 51)) := ((Below.refl w.heap.size w).alloc (Nat.le_refl _) _)
  have o1 := heap_last w (.cells #[.string N, .string D] 51)
  have O1 := Lib.hid o1
  clear o1
  have hsz : (w.alloc (.cells #[.string N, .string D] 51)).heap.size = w.heap.size + 1 := by simp
  have HSZ := Lib.hid hsz
  clear hsz
  obtain ⟨wB, hwB⟩ : ∃ x, (w.alloc (.cells #[.string N, .string D] 51)) = x := ⟨_, rfl⟩
  rw [hwB] at hW HSZ O1
  have e1 := vw_wok hN
  have e2 := vw_wok hD
  have hsN := vw_size hN
  have hsD := vw_size hD
  have c0 := cell_later (j := 0) O1.out (Below.refl _ _)
  have c1 := cell_later (j := 1) O1.out (Below.refl _ _)
  simp at c0 c1
  go_enter Tryz.func92, Tryz.ntmps92
  go_wp2_with fail
  try rw [hwB]
  refine (right_any _ N hsN).mono ?_
  rintro e w1 ⟨rfl, hb1⟩
  rw [e1]
  have x0 := cell_later (j := 0) O1.out hb1
  have x1 := cell_later (j := 1) O1.out hb1
  simp at x0 x1
  go_wp2_with fail
  refine (right_any _ D hsD).mono ?_
  rintro e w2 ⟨rfl, hb2⟩
  rw [e2]
  have hb12 := chain hb1 hb2
  have HS2 : Hid (∀ w', Below w2.heap.size w2 w' → w'.cell? ⟨w.heap.size, 0, none⟩ = some (.string N) ∧ w'.cell? ⟨w.heap.size, 1, none⟩ = some (.string D)) := fun w' h => ⟨(cell_later (j := 0) (blk_later O1.out hb12) h).trans (by simp), (cell_later (j := 1) (blk_later O1.out hb12) h).trans (by simp)⟩
  have hW2 := chain hW hb12
  clear x0 x1 c0 c1
  go_upto_region 3 with fail
  go_cut [3, 4] (fun px py wx => ∃ gx gy b3 A3 l3 c3 b4 A4 l4 c4, px = .pointer (some ⟨gx, 0, none⟩) ∧ py = .pointer (some ⟨gy, 0, none⟩) ∧ wx.cell? ⟨gx, 0, none⟩ = some (.bool b3) ∧ wx.cell? ⟨gx, 1, none⟩ = some (.slice A3 l3 c3) ∧ wx.cell? ⟨gy, 0, none⟩ = some (.bool b4) ∧ wx.cell? ⟨gy, 1, none⟩ = some (.slice A4 l4 c4) ∧ Hid (b3 = decide (y < 0)) ∧ Hid (b4 = decide (z < 0)) ∧ Ms wx 160 A3 l3 c3 y.natAbs ∧ Ms wx 160 A4 l4 c4 z.natAbs ∧ Below w2.heap.size w2 wx)
  case first =>
    go_region_held3 (fun w' => w'.cell? ⟨w.heap.size, 0, none⟩ = some (.string N) ∧ w'.cell? ⟨w.heap.size, 1, none⟩ = some (.string D))
      ((refine HS2.out _ ?_; repeat (first | with_reducible exact Below.refl _ _ | with_reducible exact hd1 | with_reducible exact hd2 | (with_reducible refine Below.setCell ?_ (by first | omega | (simp <;> omega)) _) | (with_reducible refine Below.alloc ?_ (by first | omega | (simp <;> omega)) _) | with_reducible refine Below.drew ?_)))
      (first
        | (go_at_call 77; (fail_if_success (have hq := hM1)); (refine (in_anyF _ N y hN).mono ?_); rintro e v1 ⟨b3, A3, l3, c3, rfl, hB1, hM1, hF1, hb1'⟩; have hcl1 := (bcell hb1').1; have hfr1 := (bcell hb1').2; have hs1 := hb1'.size; (try simp at hs1); have hO1 := Lib.hid hM1.old; (try have ht1 : w2.heap.size < v1.heap.size := by omega); (try have ht2 : w2.heap.size + 1 < v1.heap.size := by omega); have hd1 : Below w2.heap.size w2 v1 := (by refine Below.trans ?_ (hb1'.mono (by first | omega | (simp <;> omega))); repeat (first | with_reducible exact Below.refl _ _ | with_reducible exact hd1 | with_reducible exact hd2 | (with_reducible refine Below.setCell ?_ (by first | omega | (simp <;> omega)) _) | (with_reducible refine Below.alloc ?_ (by first | omega | (simp <;> omega)) _) | with_reducible refine Below.drew ?_)))
        | (go_at_call 77; (refine (in_anyF _ D z hD).mono ?_); rintro e v2 ⟨b4, A4, l4, c4, rfl, hB2, hM2, hF2, hb2'⟩; have hcl2 := (bcell hb2').1; have hfr2 := (bcell hb2').2; have hs2 := hb2'.size; (try simp at hs2); have hO2 := Lib.hid hM2.old; (try have hu1 : v1.heap.size < v2.heap.size := by omega); (try have hu2 : v1.heap.size + 1 < v2.heap.size := by omega); (try have hu3 : w2.heap.size < v2.heap.size := by omega); (try have hu4 : w2.heap.size + 1 < v2.heap.size := by omega); (try have hu5 : w2.heap.size < v1.heap.size + 1 := by omega); have hd2 : Below w2.heap.size w2 v2 := (by refine Below.trans ?_ (hb2'.mono (by first | omega | (simp <;> omega))); repeat (first | with_reducible exact Below.refl _ _ | with_reducible exact hd1 | with_reducible exact hd2 | (with_reducible refine Below.setCell ?_ (by first | omega | (simp <;> omega)) _) | (with_reducible refine Below.alloc ?_ (by first | omega | (simp <;> omega)) _) | with_reducible refine Below.drew ?_))))
    all_goals (
      go_wp2_with fail
      go_meet
      refine ⟨_, _, b3, A3, l3, c3, b4, A4, l4, c4, rfl, rfl, ?_, ?_, ?_, ?_, hB1, hB2, ?_, ?_, ?_⟩
      · first | (go_simp; done) | (go_simp; refine World.cell?_setCell_same (u := .bool false) _ _ _ ?_; go_simp; done) | (go_simp; refine (World.cell?_setCell_other _ _ _ _ (by simp <;> omega)).trans ?_; go_simp; done)
      · first | (go_simp; done) | (go_simp; refine World.cell?_setCell_same (u := .slice none 0 0) _ _ _ ?_; go_simp; done) | (go_simp; refine (World.cell?_setCell_other _ _ _ _ (by simp <;> omega)).trans ?_; go_simp; done)
      · first | (go_simp; done) | (go_simp; refine World.cell?_setCell_same (u := .bool false) _ _ _ ?_; go_simp; done) | (go_simp; refine (World.cell?_setCell_other _ _ _ _ (by simp <;> omega)).trans ?_; go_simp; done)
      · first | (go_simp; done) | (go_simp; refine World.cell?_setCell_same (u := .slice none 0 0) _ _ _ ?_; go_simp; done) | (go_simp; refine (World.cell?_setCell_other _ _ _ _ (by simp <;> omega)).trans ?_; go_simp; done)
      · repeat (first | with_reducible exact hM1 | (with_reducible refine Ms.setCell ?_ (fun ad e hl => by have h1 := hO1.out ad e hl; have h2 := hF1.out ad e; (try simp at h2); first | omega | (simp <;> omega))) | (with_reducible refine Ms.below ?_ ((Below.refl _ _).alloc (Nat.le_refl _) _)) | (with_reducible refine Ms.below ?_ hb2') | (with_reducible refine Ms.below ?_ ((Below.refl _ _).drew)))
      · repeat (first | with_reducible exact hM2 | (with_reducible refine Ms.setCell ?_ (fun ad e hl => by have h1 := hO2.out ad e hl; have h2 := hF2.out ad e; (try simp at h2); first | omega | (simp <;> omega))) | (with_reducible refine Ms.below ?_ ((Below.refl _ _).alloc (Nat.le_refl _) _)) | (with_reducible refine Ms.below ?_ hb2') | (with_reducible refine Ms.below ?_ ((Below.refl _ _).drew)))
      · repeat (first | with_reducible exact Below.refl _ _ | with_reducible exact hd1 | with_reducible exact hd2 | (with_reducible refine Below.setCell ?_ (by first | omega | (simp <;> omega)) _) | (with_reducible refine Below.alloc ?_ (by first | omega | (simp <;> omega)) _) | with_reducible refine Below.drew ?_))
  case rest =>
    obtain ⟨gx, gy, b3, A3, l3, c3, b4, A4, l4, c4, rfl, rfl, k0, k1, k2, k3, hB3, hB4, hM3, hM4, hbc⟩ := hcut
    have HM3 := Lib.hid hM3
    have HM4 := Lib.hid hM4
    have hWE := chain hW2 hbc
    clear hM3 hM4
    rcases Int.lt_trichotomy z 0 with hz | hz | hz
    · obtain rfl : b4 = true := by rw [hB4.out]; simp [hz]
      obtain rfl : bb = false := by rw [hbb.out]; simp; omega
      clear hz
      go_wp2
      go_ret
      exact ⟨rfl, hWE⟩
    · obtain rfl : b4 = false := by rw [hB4.out]; simp; omega
      obtain rfl : bb = false := by rw [hbb.out]; simp; omega
      have hl : l4 = 0 := HM4.out.len_zero.2 (by omega)
      subst hl
      clear hz
      go_wp2
      go_ret
      exact ⟨rfl, hWE⟩
    · obtain rfl : b4 = false := by rw [hB4.out]; simp; omega
      have hl : ((l4 : Int) == 0) = false := by rw [beq_eq_false_iff_ne]; intro e; have := HM4.out.len_zero.1 (by omega); omega
      obtain ⟨g, hg⟩ : ∃ g, Nat.gcd y.natAbs z.natAbs = g := ⟨_, rfl⟩
      have HG := Lib.hid hg
      have HBB : Hid (bb = decide (g = 1)) := by show _ = _; rw [hbb.out]; exact decide_eq_decide.2 ⟨fun ⟨_, b⟩ => by rw [← hg]; exact b, fun b => ⟨hz, by rw [hg]; exact b⟩⟩
      obtain ⟨T, hT⟩ : ∃ T : ByteArray, (⟨(Lib.itoa (g : Int)).toArray⟩ : ByteArray) = T := ⟨_, rfl⟩
      have HT := Lib.hid hT
      have HTB : Hid ((T.toList == [49]) = decide (g = 1)) := by
        show _ = _
        rw [← hT, Lib.toList_data, Bool.eq_iff_iff, beq_iff_eq, decide_eq_true_iff]
        show Lib.itoa (g : Int) = [49] ↔ g = 1
        constructor
        · intro e
          rw [itoa_nat] at e
          have := dval_decDigits g
          rw [e] at this
          exact this.symm
        · rintro rfl; simp [Lib.itoa, Lib.decDigits]
      clear hz hT hg
      go_wp2_with fail
      refine (divisor_any _ b3 A3 l3 c3 y.natAbs HM3.out false A4 l4 c4 z.natAbs HM4.out (by decide)).mono ?_
      rintro e w4 ⟨bg, Ag, lg, cg, rfl, hsg, hAg, hb4⟩
      rw [HG.out] at hAg hsg
      go_wp2_with fail
      refine (text_any _ bg Ag lg cg (g : Int) hsg hAg (by decide)).mono ?_
      rintro e w5 ⟨rfl, hb5⟩
      rw [HT.out]
      have hWF := chain (chain hWE hb4) hb5
      cases hb1 : decide (g = 1) with
      | true =>
        have h1 : (T.toList == [49]) = true := HTB.out.trans hb1
        obtain rfl : bb = true := HBB.out.trans hb1
        clear hb1
        go_wp2
        go_ret
        exact ⟨rfl, hWF⟩
      | false =>
        have h1 : (T.toList == [49]) = false := HTB.out.trans hb1
        obtain rfl : bb = false := HBB.out.trans hb1
        clear hb1
        go_wp2
        go_ret
        exact ⟨rfl, hWF⟩

theorem rright_ok (w : World) (N D : ByteArray) {q : Rat} (h : VQ N D q) :
    Calls Tryz.prog 92 #[.agg #[.string N, .string D]] w fun e w' => e = .returned (.bool true) ∧ Below w.heap.size w w' :=
  rright_v w N D h.num h.den true (by show _ = _; have h1 := q.den_pos; have h2 : Nat.gcd q.num.natAbs ((q.den : Int)).natAbs = 1 := (by rw [Int.natAbs_natCast]; exact q.reduced); symm; rw [decide_eq_true_iff]; exact ⟨by omega, h2⟩)
theorem rright_bad (w : World) (N D : ByteArray) (hsN : N.size ≤ 1000000) (hsD : D.size ≤ 1000000) (h : ¬ ∃ q, VQ N D q) :
    Calls Tryz.prog 92 #[.agg #[.string N, .string D]] w fun e w' => e = .returned (.bool false) ∧ Below w.heap.size w w' := by
  by_cases h1 : wok N = true
  · obtain ⟨y, hN⟩ := wok_vw h1
    by_cases h2 : wok D = true
    · obtain ⟨z, hD⟩ := wok_vw h2
      exact rright_v w N D hN hD false (by show _ = _; symm; rw [decide_eq_false_iff_not]; rintro ⟨a, b⟩; exact h (vq_of hN hD a b))
    · exact rright_d w N D hN (by simpa using h2) hsD
  · exact rright_n w N D (by simpa using h1) hsN
end Go.Proofs.YtkajibniibjblaaGreatDoor.P4

namespace Go.Proofs.YtkajibniibjblaaGreatDoor.P4
open Go.RowKit
set_option maxRecDepth 100000

theorem bright_any (w : World) (lo hi : Int) :
    Calls Tryz.prog 76 #[bandV lo hi] w fun e w' => e = .returned (.bool (okB lo hi)) ∧ Below w.heap.size w w' := by
  have hW : Below w.heap.size w (w.alloc (.cells #[.int .i64 lo, .int .i64 hi] 23)) := ((Below.refl w.heap.size w).alloc (Nat.le_refl _) _)
  have o1 := heap_last w (.cells #[.int .i64 lo, .int .i64 hi] 23)
  have O1 := Lib.hid o1
  clear o1
  have hsz : (w.alloc (.cells #[.int .i64 lo, .int .i64 hi] 23)).heap.size = w.heap.size + 1 := by simp
  have HSZ := Lib.hid hsz
  clear hsz
  obtain ⟨wB, hwB⟩ : ∃ x, (w.alloc (.cells #[.int .i64 lo, .int .i64 hi] 23)) = x := ⟨_, rfl⟩
  rw [hwB] at hW HSZ O1
  have c0 := cell_later (j := 0) O1.out (Below.refl _ _)
  have c1 := cell_later (j := 1) O1.out (Below.refl _ _)
  simp at c0 c1
  by_cases h1 : -1000000000000000000 ≤ lo
  · have g1 : decide (-1000000000000000000 ≤ lo) = true := decide_eq_true h1
    by_cases h2 : lo ≤ hi
    · have g2 : decide (lo ≤ hi) = true := decide_eq_true h2
      by_cases h3 : hi ≤ 1000000000000000000
      · have g3 : decide (hi ≤ 1000000000000000000) = true := decide_eq_true h3
        have HK : Hid (okB lo hi = true) := by show _ = _; rw [okB]; simp; omega
        go_enter Tryz.func76, Tryz.ntmps76
        go_wp2_with fail
        try rw [hwB]
        first | (go_quiet (fail)) | skip
        all_goals go_wp2_with fail
        all_goals go_ret
        all_goals exact ⟨by rw [HK.out]; rfl, (by first | exact hW | exact below_drewN hW _)⟩
      · have g3 : decide (hi ≤ 1000000000000000000) = false := decide_eq_false h3
        have HK : Hid (okB lo hi = false) := by show _ = _; rw [okB]; simp; omega
        go_enter Tryz.func76, Tryz.ntmps76
        go_wp2_with fail
        try rw [hwB]
        first | (go_quiet (fail)) | skip
        all_goals go_wp2_with fail
        all_goals go_ret
        all_goals exact ⟨by rw [HK.out]; rfl, (by first | exact hW | exact below_drewN hW _)⟩
    · have g2 : decide (lo ≤ hi) = false := decide_eq_false h2
      have HK : Hid (okB lo hi = false) := by show _ = _; rw [okB]; simp; omega
      go_enter Tryz.func76, Tryz.ntmps76
      go_wp2_with fail
      try rw [hwB]
      first | (go_quiet (fail)) | skip
      all_goals go_wp2_with fail
      all_goals go_ret
      all_goals exact ⟨by rw [HK.out]; rfl, (by first | exact hW | exact below_drewN hW _)⟩
  · have g1 : decide (-1000000000000000000 ≤ lo) = false := decide_eq_false h1
    have HK : Hid (okB lo hi = false) := by show _ = _; rw [okB]; simp; omega
    go_enter Tryz.func76, Tryz.ntmps76
    go_wp2_with fail
    try rw [hwB]
    first | (go_quiet (fail)) | skip
    all_goals go_wp2_with fail
    all_goals go_ret
    all_goals exact ⟨by rw [HK.out]; rfl, (by first | exact hW | exact below_drewN hW _)⟩
theorem rbcheck_true (w : World) (lo hi : Int) (h : okB lo hi = true) :
    Calls Tryz.prog 31 #[bandV lo hi] w fun e w' => e = .returned (.int .i64 0) ∧ Below w.heap.size w w' := by
  have hW : Below w.heap.size w (w.alloc (.cells #[.int .i64 lo, .int .i64 hi] 23)) := ((Below.refl w.heap.size w).alloc (Nat.le_refl _) _)
  have o1 := heap_last w (.cells #[.int .i64 lo, .int .i64 hi] 23)
  have O1 := Lib.hid o1
  clear o1
  have hsz : (w.alloc (.cells #[.int .i64 lo, .int .i64 hi] 23)).heap.size = w.heap.size + 1 := by simp
  have HSZ := Lib.hid hsz
  clear hsz
  obtain ⟨wB, hwB⟩ : ∃ x, (w.alloc (.cells #[.int .i64 lo, .int .i64 hi] 23)) = x := ⟨_, rfl⟩
  rw [hwB] at hW HSZ O1
  have c0 := cell_later (j := 0) O1.out (Below.refl _ _)
  have c1 := cell_later (j := 1) O1.out (Below.refl _ _)
  simp at c0 c1
  go_enter Tryz.func31, Tryz.ntmps31
  go_wp2_with fail
  try rw [hwB]
  refine (bright_any _ lo hi).mono ?_
  rintro e w1 ⟨rfl, hb1⟩
  rw [h]
  go_wp2
  go_ret
  exact ⟨rfl, chain hW hb1⟩
theorem rbcheck_false (w : World) (lo hi : Int) (h : okB lo hi = false) :
    Calls Tryz.prog 31 #[bandV lo hi] w fun e w' => e = .returned (.int .i64 30) ∧ Below w.heap.size w w' := by
  have hW : Below w.heap.size w (w.alloc (.cells #[.int .i64 lo, .int .i64 hi] 23)) := ((Below.refl w.heap.size w).alloc (Nat.le_refl _) _)
  have o1 := heap_last w (.cells #[.int .i64 lo, .int .i64 hi] 23)
  have O1 := Lib.hid o1
  clear o1
  have hsz : (w.alloc (.cells #[.int .i64 lo, .int .i64 hi] 23)).heap.size = w.heap.size + 1 := by simp
  have HSZ := Lib.hid hsz
  clear hsz
  obtain ⟨wB, hwB⟩ : ∃ x, (w.alloc (.cells #[.int .i64 lo, .int .i64 hi] 23)) = x := ⟨_, rfl⟩
  rw [hwB] at hW HSZ O1
  have c0 := cell_later (j := 0) O1.out (Below.refl _ _)
  have c1 := cell_later (j := 1) O1.out (Below.refl _ _)
  simp at c0 c1
  go_enter Tryz.func31, Tryz.ntmps31
  go_wp2_with fail
  try rw [hwB]
  refine (bright_any _ lo hi).mono ?_
  rintro e w1 ⟨rfl, hb1⟩
  rw [h]
  go_wp2
  go_ret
  exact ⟨rfl, chain hW hb1⟩
theorem rbcheck_any (w : World) (lo hi : Int) : Calls Tryz.prog 31 #[bandV lo hi] w fun e w' => e = .returned (.int .i64 (chkB lo hi)) ∧ Below w.heap.size w w' := by
  rw [chkB]
  by_cases h : okB lo hi = true
  · rw [if_pos h]; exact rbcheck_true w lo hi h
  · rw [if_neg h]; exact rbcheck_false w lo hi (by simpa using h)
theorem rof_true (w : World) (lo hi : Int) (h : okB lo hi = true) :
    Calls Tryz.prog 29 #[.int .i64 lo, .int .i64 hi] w (RetB w (oneB lo hi ⟨lo, hi, 0⟩)) := by
  have hW : Below w.heap.size w ((w.alloc (.cells #[.int .i64 0, .int .i64 0] 23)).alloc (.cells #[.int .i64 lo, .int .i64 hi] 23)) := (((Below.refl w.heap.size w).alloc (Nat.le_refl _) _).alloc (by simp <;> omega) _)
  have o1 := heap_more (heap_last w (.cells #[.int .i64 0, .int .i64 0] 23)) (.cells #[.int .i64 lo, .int .i64 hi] 23)
  have O1 := Lib.hid o1
  clear o1
  have o2 := heap_last (w.alloc (.cells #[.int .i64 0, .int .i64 0] 23)) (.cells #[.int .i64 lo, .int .i64 hi] 23)
  rw [show (w.alloc (.cells #[.int .i64 0, .int .i64 0] 23)).heap.size = w.heap.size + 1 by simp] at o2
  have O2 := Lib.hid o2
  clear o2
  have hsz : ((w.alloc (.cells #[.int .i64 0, .int .i64 0] 23)).alloc (.cells #[.int .i64 lo, .int .i64 hi] 23)).heap.size = w.heap.size + 1 + 1 := by simp
  have HSZ := Lib.hid hsz
  clear hsz
  obtain ⟨wB, hwB⟩ : ∃ x, ((w.alloc (.cells #[.int .i64 0, .int .i64 0] 23)).alloc (.cells #[.int .i64 lo, .int .i64 hi] 23)) = x := ⟨_, rfl⟩
  rw [hwB] at hW HSZ O1 O2
  have HR : Hid (oneB lo hi ⟨lo, hi, 0⟩ = ⟨lo, hi, 0⟩) := by show _ = _; rw [oneB, h]; rfl
  have c0 := cell_later (j := 0) O2.out (Below.refl _ _)
  have c1 := cell_later (j := 1) O2.out (Below.refl _ _)
  simp at c0 c1
  go_enter Tryz.func29, Tryz.ntmps29
  go_wp2_with fail
  try rw [hwB]
  refine (bright_any _ lo hi).mono ?_
  rintro e w1 ⟨rfl, hb1⟩
  rw [h]
  have c2 := cell_later (j := 0) O2.out hb1
  have c3 := cell_later (j := 1) O2.out hb1
  simp at c2 c3
  have r0 := cell_later (j := 0) O1.out hb1
  have r1 := cell_later (j := 1) O1.out hb1
  have rf0 := frozen_later O1.out hb1 0
  have rf1 := frozen_later O1.out hb1 1
  simp at r0 r1
  have hW1 := chain hW hb1
  have hs := hW1.size
  go_wp2_with fail
  refine bodyPost_ret (v := .tuple #[bandV lo hi, .int .i64 0]) (by simp [results, Tryz.results29, go_sem, r0, r1]) rfl ⟨by rw [HR.out], ?_⟩
  repeat (first | with_reducible exact hW1 | (with_reducible refine Below.setCell ?_ (by first | omega | (simp <;> omega)) _))
theorem rof_false (w : World) (lo hi : Int) (h : okB lo hi = false) :
    Calls Tryz.prog 29 #[.int .i64 lo, .int .i64 hi] w (RetB w (oneB lo hi ⟨lo, hi, 0⟩)) := by
  have hW : Below w.heap.size w ((w.alloc (.cells #[.int .i64 0, .int .i64 0] 23)).alloc (.cells #[.int .i64 lo, .int .i64 hi] 23)) := (((Below.refl w.heap.size w).alloc (Nat.le_refl _) _).alloc (by simp <;> omega) _)
  have o1 := heap_more (heap_last w (.cells #[.int .i64 0, .int .i64 0] 23)) (.cells #[.int .i64 lo, .int .i64 hi] 23)
  have O1 := Lib.hid o1
  clear o1
  have o2 := heap_last (w.alloc (.cells #[.int .i64 0, .int .i64 0] 23)) (.cells #[.int .i64 lo, .int .i64 hi] 23)
  rw [show (w.alloc (.cells #[.int .i64 0, .int .i64 0] 23)).heap.size = w.heap.size + 1 by simp] at o2
  have O2 := Lib.hid o2
  clear o2
  have hsz : ((w.alloc (.cells #[.int .i64 0, .int .i64 0] 23)).alloc (.cells #[.int .i64 lo, .int .i64 hi] 23)).heap.size = w.heap.size + 1 + 1 := by simp
  have HSZ := Lib.hid hsz
  clear hsz
  obtain ⟨wB, hwB⟩ : ∃ x, ((w.alloc (.cells #[.int .i64 0, .int .i64 0] 23)).alloc (.cells #[.int .i64 lo, .int .i64 hi] 23)) = x := ⟨_, rfl⟩
  rw [hwB] at hW HSZ O1 O2
  have HR : Hid (oneB lo hi ⟨lo, hi, 0⟩ = ⟨0, 0, 30⟩) := by show _ = _; rw [oneB, h]; rfl
  have c0 := cell_later (j := 0) O2.out (Below.refl _ _)
  have c1 := cell_later (j := 1) O2.out (Below.refl _ _)
  simp at c0 c1
  go_enter Tryz.func29, Tryz.ntmps29
  go_wp2_with fail
  try rw [hwB]
  refine (bright_any _ lo hi).mono ?_
  rintro e w1 ⟨rfl, hb1⟩
  rw [h]
  have c2 := cell_later (j := 0) O2.out hb1
  have c3 := cell_later (j := 1) O2.out hb1
  simp at c2 c3
  have r0 := cell_later (j := 0) O1.out hb1
  have r1 := cell_later (j := 1) O1.out hb1
  have rf0 := frozen_later O1.out hb1 0
  have rf1 := frozen_later O1.out hb1 1
  simp at r0 r1
  have hW1 := chain hW hb1
  have hs := hW1.size
  go_wp2_with fail
  refine bodyPost_ret (v := .tuple #[bandV 0 0, .int .i64 30]) (by simp [results, Tryz.results29, go_sem, r0, r1]) rfl ⟨by rw [HR.out], ?_⟩
  repeat (first | with_reducible exact hW1 | (with_reducible refine Below.setCell ?_ (by first | omega | (simp <;> omega)) _))
theorem rof_any (w : World) (lo hi : Int) : Calls Tryz.prog 29 #[.int .i64 lo, .int .i64 hi] w (RetB w (oneB lo hi ⟨lo, hi, 0⟩)) := by
  cases h : okB lo hi with
  | true => exact rof_true w lo hi h
  | false => exact rof_false w lo hi h
theorem rpoint_any (w : World) (n : Int) :
    Calls Tryz.prog 27 #[.int .i64 n] w (RetB w (oneB n n ⟨n, n, 0⟩)) := by
  have hW : Below w.heap.size w (w.alloc (.cells #[.int .i64 0, .int .i64 0] 23)) := ((Below.refl w.heap.size w).alloc (Nat.le_refl _) _)
  have o1 := heap_last w (.cells #[.int .i64 0, .int .i64 0] 23)
  have O1 := Lib.hid o1
  clear o1
  have hsz : (w.alloc (.cells #[.int .i64 0, .int .i64 0] 23)).heap.size = w.heap.size + 1 := by simp
  have HSZ := Lib.hid hsz
  clear hsz
  obtain ⟨wB, hwB⟩ : ∃ x, (w.alloc (.cells #[.int .i64 0, .int .i64 0] 23)) = x := ⟨_, rfl⟩
  rw [hwB] at hW HSZ O1
  obtain ⟨r, hr⟩ : ∃ r, oneB n n ⟨n, n, 0⟩ = r := ⟨_, rfl⟩
  rw [hr]
  have HR := Lib.hid hr
  clear hr
  go_enter Tryz.func27, Tryz.ntmps27
  go_wp2_with fail
  try rw [hwB]
  refine (rof_any _ n n).mono ?_
  rintro e w1 ⟨rfl, hb1⟩
  rw [HR.out]
  have r0 := cell_later (j := 0) O1.out hb1
  have r1 := cell_later (j := 1) O1.out hb1
  have rf0 := frozen_later O1.out hb1 0
  have rf1 := frozen_later O1.out hb1 1
  simp at r0 r1
  have hW1 := chain hW hb1
  have hs := hW1.size
  go_wp2
  refine bodyPost_ret (v := .tuple #[bandV r.lo r.hi, .int .i64 r.e]) (by simp [results, Tryz.results27, go_sem, r0, r1]) rfl ⟨rfl, ?_⟩
  repeat (first | with_reducible exact hW1 | (with_reducible refine Below.setCell ?_ (by first | omega | (simp <;> omega)) _))
theorem point_any (w : World) (n : Int) :
    Calls Tryz.prog 26 #[.int .i64 n] w (RetB w (oneB n n ⟨n, n, 0⟩)) := by
  have hW : Below w.heap.size w (w.alloc (.cells #[.int .i64 0, .int .i64 0] 23)) := ((Below.refl w.heap.size w).alloc (Nat.le_refl _) _)
  have o1 := heap_last w (.cells #[.int .i64 0, .int .i64 0] 23)
  have O1 := Lib.hid o1
  clear o1
  have hsz : (w.alloc (.cells #[.int .i64 0, .int .i64 0] 23)).heap.size = w.heap.size + 1 := by simp
  have HSZ := Lib.hid hsz
  clear hsz
  obtain ⟨wB, hwB⟩ : ∃ x, (w.alloc (.cells #[.int .i64 0, .int .i64 0] 23)) = x := ⟨_, rfl⟩
  rw [hwB] at hW HSZ O1
  obtain ⟨r, hr⟩ : ∃ r, oneB n n ⟨n, n, 0⟩ = r := ⟨_, rfl⟩
  rw [hr]
  have HR := Lib.hid hr
  clear hr
  go_enter Tryz.func26, Tryz.ntmps26
  go_wp2_with fail
  try rw [hwB]
  refine (of_b _ n n).mono ?_
  rintro e w1 ⟨rfl, hb1⟩
  rw [HR.out]
  have r0 := cell_later (j := 0) O1.out hb1
  have r1 := cell_later (j := 1) O1.out hb1
  have rf0 := frozen_later O1.out hb1 0
  have rf1 := frozen_later O1.out hb1 1
  simp at r0 r1
  have hW1 := chain hW hb1
  have hs := hW1.size
  go_wp2
  refine bodyPost_ret (v := .tuple #[bandV r.lo r.hi, .int .i64 r.e]) (by simp [results, Tryz.results26, go_sem, r0, r1]) rfl ⟨rfl, ?_⟩
  repeat (first | with_reducible exact hW1 | (with_reducible refine Below.setCell ?_ (by first | omega | (simp <;> omega)) _))
theorem rvalue_any (w : World) (n : Int) (h0 : -9223372036854775808 ≤ n) (h1 : n ≤ 9223372036854775807) :
    Calls Tryz.prog 98 #[.int .i64 n] w (RetR w 5 (mkRat n 1000000000000)) := by
  have hW : Below w.heap.size w (w.alloc (.cells #[.bool false, .slice none 0 0, .bool false, .slice none 0 0] 108)) := ((Below.refl w.heap.size w).alloc (Nat.le_refl _) _)
  have o1 := heap_last w (.cells #[.bool false, .slice none 0 0, .bool false, .slice none 0 0] 108)
  have O1 := Lib.hid o1
  clear o1
  have hsz : (w.alloc (.cells #[.bool false, .slice none 0 0, .bool false, .slice none 0 0] 108)).heap.size = w.heap.size + 1 := by simp
  have HSZ := Lib.hid hsz
  clear hsz
  obtain ⟨wB, hwB⟩ : ∃ x, (w.alloc (.cells #[.bool false, .slice none 0 0, .bool false, .slice none 0 0] 108)) = x := ⟨_, rfl⟩
  rw [hwB] at hW HSZ O1
  go_enter Tryz.func98, Tryz.ntmps98
  go_wp2_with fail
  try rw [hwB]
  refine (rquick_any _ n 1000000000000 h0 h1 (by decide) (by decide)).mono ?_
  rintro e w3 ⟨b3, A3, l3, c3, B3, m3, d3, rfl, hs3, hA3, hB3, hx3⟩
  have r0 := cell_later (j := 0) O1.out hx3
  have r1 := cell_later (j := 1) O1.out hx3
  have r2 := cell_later (j := 2) O1.out hx3
  have r3 := cell_later (j := 3) O1.out hx3
  have rf0 := frozen_later O1.out hx3 0
  have rf1 := frozen_later O1.out hx3 1
  have rf2 := frozen_later O1.out hx3 2
  have rf3 := frozen_later O1.out hx3 3
  simp at r0 r1 r2 r3
  have HN := Lib.hid hA3
  have HD := Lib.hid hB3
  clear hA3 hB3
  have hWE := chain hW hx3
  have hbs := hWE.size
  have HNF := Lib.hid (HN.out.offc (g := w.heap.size) (blk_later O1.out hx3) (by intro j v h d e; subst e; rcases j with _ | _ | _ | _ | j <;> simp at h))
  have HDF := Lib.hid (HD.out.offc (g := w.heap.size) (blk_later O1.out hx3) (by intro j v h d e; subst e; rcases j with _ | _ | _ | _ | j <;> simp at h))
  go_wp2
  refine bodyPost_ret (v := .agg #[.bool b3, .slice A3 l3 c3, .bool false, .slice B3 m3 d3]) (by simp [results, Tryz.results98, go_sem]; go_simp) rfl ⟨_, _, _, _, _, _, _, rfl, hs3, ?_, ?_, ?_⟩
  · repeat (first | with_reducible exact HN.out | with_reducible refine Ms.setCell ?_ HNF.out)
  · repeat (first | with_reducible exact HD.out | with_reducible refine Ms.setCell ?_ HDF.out)
  · repeat (first | with_reducible exact hWE | (with_reducible refine Below.setCell ?_ (by first | omega | (simp <;> omega)) _) | (with_reducible refine Below.alloc ?_ (by first | omega | (simp <;> omega)) _))

end Go.Proofs.YtkajibniibjblaaGreatDoor.P4

namespace Go.Proofs.YtkajibniibjblaaGreatDoor.P4
open Go.RowKit
set_option maxRecDepth 100000

/-- Tight's answer, as the code reckons it. -/
def tightB (u v : Int) : BR := if inI u = true ∧ inI v = true ∧ v ≠ -9223372036854775808 ∧ okB u (-v) = true then ⟨u, -v, 0⟩ else .bad 6
theorem one_e : mkRat 1000000000000 1 = ((1000000000000 : Int) : Rat) := by
  rw [Rat.mkRat_eq_div]; grind
theorem inI_iff (z : Int) : inI z = true ↔ (-9223372036854775808 ≤ z ∧ z < 9223372036854775808) := by rw [inI, decide_eq_true_iff]
theorem tight_law (q : Rat) : tightB ((q * mkRat 1000000000000 1).num / ((q * mkRat 1000000000000 1).den : Int)) ((-(q * mkRat 1000000000000 1)).num / ((-(q * mkRat 1000000000000 1)).den : Int)) = aroundB q := by
  rw [one_e, aroundB]
  have hu : unitsF q = (q * ((1000000000000 : Int) : Rat)).num / ((q * ((1000000000000 : Int) : Rat)).den : Int) := rfl
  rw [← hu]
  have hle := Rat.floor_le (q * ((1000000000000 : Int) : Rat))
  have hlt := Rat.lt_floor_add_one (q * ((1000000000000 : Int) : Rat))
  rw [← unitsF_floor] at hle hlt
  have hle2 := Rat.floor_le (-(q * ((1000000000000 : Int) : Rat)))
  have hlt2 := Rat.lt_floor_add_one (-(q * ((1000000000000 : Int) : Rat)))
  rw [Rat.floor_def] at hle2 hlt2
  generalize unitsF q = u at *
  generalize hv : (-(q * ((1000000000000 : Int) : Rat))).num / ((-(q * ((1000000000000 : Int) : Rat))).den : Int) = v at *
  generalize q * ((1000000000000 : Int) : Rat) = p at *
  have hkey : (p = (u : Rat) ∧ v = -u) ∨ (¬ p = (u : Rat) ∧ v = -(u + 1)) := by
    by_cases hp : p = (u : Rat)
    · refine Or.inl ⟨hp, ?_⟩
      have h1 : (v : Rat) ≤ ((-u : Int) : Rat) := by rw [hp] at hle2; rw [Rat.intCast_neg]; exact hle2
      have h2 : ((-u : Int) : Rat) < ((v + 1 : Int) : Rat) := by rw [hp] at hlt2; rw [Rat.intCast_neg]; exact hlt2
      have h3 := Rat.intCast_le_intCast.1 h1
      have h4 := Rat.intCast_lt_intCast.1 h2
      omega
    · refine Or.inr ⟨hp, ?_⟩
      have hlt' : (u : Rat) < p := Rat.lt_of_le_of_ne hle (fun e => hp e.symm)
      have h1 : (v : Rat) < ((-u : Int) : Rat) := by rw [Rat.intCast_neg]; grind
      have h2 : ((-(u + 1) : Int) : Rat) < ((v + 1 : Int) : Rat) := by rw [Rat.intCast_neg, Rat.intCast_add, Rat.intCast_add]; grind
      have h3 := Rat.intCast_lt_intCast.1 h1
      have h4 := Rat.intCast_lt_intCast.1 h2
      omega
  clear hle hlt hle2 hlt2
  rw [tightB]
  rcases hkey with ⟨hp, rfl⟩ | ⟨hp, rfl⟩
  · rw [if_pos hp]
    by_cases h : -1000000000000000000 ≤ u ∧ u ≤ 1000000000000000000
    · rw [if_pos h, fit_ok ((ok_iff _ _).2 (by omega)), if_pos ⟨(inI_iff _).2 (by omega), (inI_iff _).2 (by omega), by omega, (ok_iff _ _).2 (by omega)⟩]
      simp
    · rw [if_neg h, if_neg]
      rintro ⟨_, _, _, h4⟩
      have := (ok_iff _ _).1 h4
      omega
  · rw [if_neg hp]
    by_cases h : -1000000000000000000 ≤ u ∧ u ≤ 1000000000000000000
    · rw [if_pos h, fitB]
      by_cases hk : okB u (u + 1) = true
      · have := (ok_iff _ _).1 hk
        rw [if_pos hk, if_pos ⟨(inI_iff _).2 (by omega), (inI_iff _).2 (by omega), by omega, (ok_iff _ _).2 (by omega)⟩]
        simp
      · rw [if_neg hk, if_neg]
        rintro ⟨_, _, _, h4⟩
        apply hk
        rw [show u + 1 = - -(u + 1) by omega]
        exact h4
    · rw [if_neg h, if_neg]
      rintro ⟨_, _, _, h4⟩
      have := (ok_iff _ _).1 h4
      omega
set_option maxHeartbeats 2000000 in
theorem tight_any (w : World) {L : Nat} (bl : Bool) (A : Option Addr) (n c : Nat) (B : Option Addr) (m d : Nat) (q : Rat) (hbl : Hid (bl = decide (q.num < 0))) (ha : Ms w L A n c q.num.natAbs) (hb : Ms w L B m d q.den) (hL : L ≤ 1000) :
    Calls Tryz.prog 94 #[.agg #[.bool bl, .slice A n c, .bool false, .slice B m d], .agg #[.bool bl, .slice A n c, .bool false, .slice B m d]] w (RetB w (aroundB q)) := by
  have hW : Below w.heap.size w (((w.alloc (.cells #[.bool bl, .slice A n c, .bool false, .slice B m d] 108)).alloc (.cells #[.bool bl, .slice A n c, .bool false, .slice B m d] 108)).alloc (.cells #[.int .i64 0, .int .i64 0] 23)) := ((((Below.refl w.heap.size w).alloc (Nat.le_refl _) _).alloc (by simp <;> omega) _).alloc (by simp <;> omega) _)
  have o1 := heap_more (heap_more (heap_last w (.cells #[.bool bl, .slice A n c, .bool false, .slice B m d] 108)) (.cells #[.bool bl, .slice A n c, .bool false, .slice B m d] 108)) (.cells #[.int .i64 0, .int .i64 0] 23)
  have O1 := Lib.hid o1
  clear o1
  have o2 := heap_more (heap_last (w.alloc (.cells #[.bool bl, .slice A n c, .bool false, .slice B m d] 108)) (.cells #[.bool bl, .slice A n c, .bool false, .slice B m d] 108)) (.cells #[.int .i64 0, .int .i64 0] 23)
  rw [show (w.alloc (.cells #[.bool bl, .slice A n c, .bool false, .slice B m d] 108)).heap.size = w.heap.size + 1 by simp] at o2
  have O2 := Lib.hid o2
  clear o2
  have o3 := heap_last ((w.alloc (.cells #[.bool bl, .slice A n c, .bool false, .slice B m d] 108)).alloc (.cells #[.bool bl, .slice A n c, .bool false, .slice B m d] 108)) (.cells #[.int .i64 0, .int .i64 0] 23)
  rw [show ((w.alloc (.cells #[.bool bl, .slice A n c, .bool false, .slice B m d] 108)).alloc (.cells #[.bool bl, .slice A n c, .bool false, .slice B m d] 108)).heap.size = w.heap.size + 1 + 1 by simp] at o3
  have O3 := Lib.hid o3
  clear o3
  have hsz : (((w.alloc (.cells #[.bool bl, .slice A n c, .bool false, .slice B m d] 108)).alloc (.cells #[.bool bl, .slice A n c, .bool false, .slice B m d] 108)).alloc (.cells #[.int .i64 0, .int .i64 0] 23)).heap.size = w.heap.size + 1 + 1 + 1 := by simp
  have HSZ := Lib.hid hsz
  clear hsz
  obtain ⟨wB, hwB⟩ : ∃ x, (((w.alloc (.cells #[.bool bl, .slice A n c, .bool false, .slice B m d] 108)).alloc (.cells #[.bool bl, .slice A n c, .bool false, .slice B m d] 108)).alloc (.cells #[.int .i64 0, .int .i64 0] 23)) = x := ⟨_, rfl⟩
  rw [hwB] at hW HSZ O1 O2 O3
  have ha1 := Lib.hid (ha.below hW)
  have hb1 := Lib.hid (hb.below hW)
  clear ha hb
  obtain ⟨p, hp⟩ : ∃ p, q * mkRat 1000000000000 1 = p := ⟨_, rfl⟩
  obtain ⟨u, hu⟩ : ∃ u : Int, p.num / (p.den : Int) = u := ⟨_, rfl⟩
  obtain ⟨v, hv⟩ : ∃ v : Int, (-p).num / ((-p).den : Int) = v := ⟨_, rfl⟩
  have HT : Hid (tightB u v = aroundB q) := by show _ = _; rw [← hu, ← hv, ← hp]; exact tight_law q
  rw [← HT.out]
  clear HT
  have HP := Lib.hid hp
  have HU := Lib.hid hu
  have HV := Lib.hid hv
  clear hp hu hv
  go_enter Tryz.func94, Tryz.ntmps94
  go_wp2_with fail
  try rw [hwB]
  refine (rquick_any _ 1000000000000 1 (by decide) (by decide) (by decide) (by decide)).mono ?_
  rintro e w1 ⟨bo, Ao, no, co, Bo, mo, do_, rfl, hso, hAo, hBo, hx1⟩
  have x0 := cell_later (j := 0) O1.out hx1
  have x1 := cell_later (j := 1) O1.out hx1
  have x2 := cell_later (j := 2) O1.out hx1
  have x3 := cell_later (j := 3) O1.out hx1
  simp at x0 x1 x2 x3
  have hz1 := hx1.size
  rw [HSZ.out] at hz1
  have hs1 : w.heap.size < w1.heap.size := by omega
  have hwa : Below w1.heap.size w1 (w1.alloc (.cells #[.bool bo, .slice Ao no co, .bool false, .slice Bo mo do_] 108)) := (Below.refl _ _).alloc (Nat.le_refl _) _
  have hc1 := chain hx1 hwa
  have OG := Lib.hid (heap_last w1 (.cells #[.bool bo, .slice Ao no co, .bool false, .slice Bo mo do_] 108))
  have HAo := Lib.hid (hAo.below hwa)
  have HBo := Lib.hid (hBo.below hwa)
  clear hAo hBo
  go_wp2_with fail
  refine (rtimes_any _ bl A n c B m d q hbl (ha1.out.below hc1) (hb1.out.below hc1) bo Ao no co Bo mo do_ (mkRat 1000000000000 1) hso HAo.out HBo.out (by omega) (by decide)).mono ?_
  rintro e w2 ⟨b2, A2, l2, c2, B2, m2, d2, rfl, hs2, hA2, hB2, hx2⟩
  rw [HP.out] at hs2 hA2 hB2
  go_wp2_with fail
  refine (rdown_any _ b2 A2 l2 c2 B2 m2 d2 p hs2 hA2 hB2 (by omega)).mono ?_
  rintro e w3 ⟨b3, A3, l3, c3, rfl, hs3, hA3, hx3⟩
  rw [HU.out] at hs3 hA3
  go_wp2_with fail
  refine (integral_any _ b3 A3 l3 c3 u hs3 hA3 (by omega)).mono ?_
  rintro e w4 ⟨rfl, hx4⟩
  obtain ⟨xu, hxu⟩ : ∃ x : Int, (if inI u = true then u else 0) = x := ⟨_, rfl⟩
  obtain ⟨eu, heu⟩ : ∃ x : Int, (if inI u = true then (0 : Int) else 6) = x := ⟨_, rfl⟩
  rw [hxu, heu]
  have HXU := Lib.hid hxu
  have HEU := Lib.hid heu
  clear hxu heu x0 x1 x2 x3 hA2 hB2 hA3
  have hk4 := chain (chain hx2 hx3) hx4
  have hc4 := chain hc1 hk4
  have y0 := cell_later (j := 0) O2.out hc4
  have y1 := cell_later (j := 1) O2.out hc4
  have y2 := cell_later (j := 2) O2.out hc4
  have y3 := cell_later (j := 3) O2.out hc4
  have z0 := cell_later (j := 0) OG.out hk4
  have z1 := cell_later (j := 1) OG.out hk4
  have z2 := cell_later (j := 2) OG.out hk4
  have z3 := cell_later (j := 3) OG.out hk4
  simp at y0 y1 y2 y3 z0 z1 z2 z3
  go_wp2_with fail
  refine (rtimes_any _ bl A n c B m d q hbl (ha1.out.below hc4) (hb1.out.below hc4) bo Ao no co Bo mo do_ (mkRat 1000000000000 1) hso (HAo.out.below hk4) (HBo.out.below hk4) (by omega) (by decide)).mono ?_
  rintro e w5 ⟨b5, A5, l5, c5, B5, m5, d5, rfl, hs5, hA5, hB5, hx5⟩
  rw [HP.out] at hs5 hA5 hB5
  go_wp2_with fail
  refine (rturn_any _ b5 A5 l5 c5 B5 m5 d5 p hs5 hA5 hB5).mono ?_
  rintro e w6 ⟨b6, A6, l6, c6, B6, m6, d6, rfl, hs6, hA6, hB6, hx6⟩
  go_wp2_with fail
  refine (rdown_any _ b6 A6 l6 c6 B6 m6 d6 (-p) hs6 hA6 hB6 (by omega)).mono ?_
  rintro e w7 ⟨b7, A7, l7, c7, rfl, hs7, hA7, hx7⟩
  rw [HV.out] at hs7 hA7
  go_wp2_with fail
  refine (integral_any _ b7 A7 l7 c7 v hs7 hA7 (by omega)).mono ?_
  rintro e w8 ⟨rfl, hx8⟩
  obtain ⟨xv, hxv⟩ : ∃ x : Int, (if inI v = true then v else 0) = x := ⟨_, rfl⟩
  obtain ⟨ev, hev⟩ : ∃ x : Int, (if inI v = true then (0 : Int) else 6) = x := ⟨_, rfl⟩
  rw [hxv, hev]
  have HXV := Lib.hid hxv
  have HEV := Lib.hid hev
  clear hxv hev y0 y1 y2 y3 z0 z1 z2 z3 hA5 hB5 hA6 hB6 hA7
  have hc8 := chain (chain (chain (chain hc4 hx5) hx6) hx7) hx8
  have r0 := cell_later (j := 0) O3.out hc8
  have r1 := cell_later (j := 1) O3.out hc8
  have rf0 := frozen_later O3.out hc8 0
  have rf1 := frozen_later O3.out hc8 1
  simp at r0 r1
  have hW8 := chain hW hc8
  have hs8 := hW8.size
  have hWF := hW8
  cases hIu : inI u with
  | false =>
    have HR : Hid (tightB u v = .bad 6) := by show _ = _; rw [tightB, if_neg]; rintro ⟨a, _⟩; rw [hIu] at a; cases a
    obtain rfl : eu = 6 := by rw [← HEU.out, hIu]; rfl
    clear hIu
    go_wp2_with fail
    all_goals refine bodyPost_ret (v := .tuple #[bandV 0 0, .int .i64 6]) (by simp [results, Tryz.results94, go_sem, r0, r1]) rfl ⟨by rw [HR.out] <;> rfl, ?_⟩
    all_goals repeat (first | with_reducible exact hWF | (with_reducible refine Below.setCell ?_ (by first | omega | (simp <;> omega)) _))
  | true =>
    obtain rfl : eu = 0 := by rw [← HEU.out, hIu]; rfl
    obtain rfl : xu = u := by rw [← HXU.out, hIu]; rfl
    cases hIv : inI v with
    | false =>
      have HR : Hid (tightB xu v = .bad 6) := by show _ = _; rw [tightB, if_neg]; rintro ⟨_, a, _⟩; rw [hIv] at a; cases a
      obtain rfl : ev = 6 := by rw [← HEV.out, hIv]; rfl
      clear hIv hIu
      go_wp2_with fail
      all_goals refine bodyPost_ret (v := .tuple #[bandV 0 0, .int .i64 6]) (by simp [results, Tryz.results94, go_sem, r0, r1]) rfl ⟨by rw [HR.out] <;> rfl, ?_⟩
      all_goals repeat (first | with_reducible exact hWF | (with_reducible refine Below.setCell ?_ (by first | omega | (simp <;> omega)) _))
    | true =>
      obtain rfl : ev = 0 := by rw [← HEV.out, hIv]; rfl
      obtain rfl : xv = v := by rw [← HXV.out, hIv]; rfl
      have hv1 := (inI_iff _).1 hIv
      by_cases hm : xv = -9223372036854775808
      · have HR : Hid (tightB xu xv = .bad 6) := by show _ = _; rw [tightB, if_neg]; rintro ⟨_, _, a, _⟩; exact a hm
        subst hm
        clear hIv hIu hv1
        go_wp2_with fail
        all_goals refine bodyPost_ret (v := .tuple #[bandV 0 0, .int .i64 6]) (by simp [results, Tryz.results94, go_sem, r0, r1]) rfl ⟨by rw [HR.out] <;> rfl, ?_⟩
        all_goals repeat (first | with_reducible exact hWF | (with_reducible refine Below.setCell ?_ (by first | omega | (simp <;> omega)) _))
      · have hm2 : (xv == -9223372036854775808) = false := by rw [beq_eq_false_iff_ne]; exact hm
        have hv2 := hv1.1
        have hv3 := hv1.2
        have hng : wrap64 (-xv) = -xv := by unfold wrap64; omega
        have HI := Lib.hid (And.intro hIu hIv)
        clear hv1 hIv hIu
        go_wp2_with fail
        clear r0 r1 rf0 rf1
        refine (bright_any _ xu (-xv)).mono ?_
        rintro e w9 ⟨rfl, hx9⟩
        have hc9 := chain hc8 hx9
        have r0 := cell_later (j := 0) O3.out hc9
        have r1 := cell_later (j := 1) O3.out hc9
        have rf0 := frozen_later O3.out hc9 0
        have rf1 := frozen_later O3.out hc9 1
        simp at r0 r1
        have hWF := chain hW hc9
        have hs9 := hWF.size
        cases hok : okB xu (-xv) with
        | true =>
          have HR : Hid (tightB xu xv = ⟨xu, -xv, 0⟩) := by show _ = _; rw [tightB, if_pos ⟨HI.out.1, HI.out.2, hm, hok⟩]
          clear hok
          go_wp2_with fail
          all_goals refine bodyPost_ret (v := .tuple #[bandV xu (-xv), .int .i64 0]) (by simp [results, Tryz.results94, go_sem, r0, r1]) rfl ⟨by rw [HR.out] <;> rfl, ?_⟩
          all_goals repeat (first | with_reducible exact hWF | (with_reducible refine Below.setCell ?_ (by first | omega | (simp <;> omega)) _))
        | false =>
          have HR : Hid (tightB xu xv = .bad 6) := by show _ = _; rw [tightB, if_neg]; rintro ⟨_, _, _, a⟩; rw [hok] at a; cases a
          clear hok
          go_wp2_with fail
          all_goals refine bodyPost_ret (v := .tuple #[bandV 0 0, .int .i64 6]) (by simp [results, Tryz.results94, go_sem, r0, r1]) rfl ⟨by rw [HR.out] <;> rfl, ?_⟩
          all_goals repeat (first | with_reducible exact hWF | (with_reducible refine Below.setCell ?_ (by first | omega | (simp <;> omega)) _))
set_option maxHeartbeats 1000000 in
theorem raround_ok (w : World) (N D : ByteArray) {q : Rat} (h : VQ N D q) :
    Calls Tryz.prog 37 #[.agg #[.string N, .string D]] w (RetB w (aroundB q)) := by
  have hW : Below w.heap.size w ((w.alloc (.cells #[.string N, .string D] 51)).alloc (.cells #[.int .i64 0, .int .i64 0] 23)) := (((Below.refl w.heap.size w).alloc (Nat.le_refl _) _).alloc (by simp <;> omega) _)
  have o1 := heap_more (heap_last w (.cells #[.string N, .string D] 51)) (.cells #[.int .i64 0, .int .i64 0] 23)
  have O1 := Lib.hid o1
  clear o1
  have o2 := heap_last (w.alloc (.cells #[.string N, .string D] 51)) (.cells #[.int .i64 0, .int .i64 0] 23)
  rw [show (w.alloc (.cells #[.string N, .string D] 51)).heap.size = w.heap.size + 1 by simp] at o2
  have O2 := Lib.hid o2
  clear o2
  have hsz : ((w.alloc (.cells #[.string N, .string D] 51)).alloc (.cells #[.int .i64 0, .int .i64 0] 23)).heap.size = w.heap.size + 1 + 1 := by simp
  have HSZ := Lib.hid hsz
  clear hsz
  obtain ⟨wB, hwB⟩ : ∃ x, ((w.alloc (.cells #[.string N, .string D] 51)).alloc (.cells #[.int .i64 0, .int .i64 0] 23)) = x := ⟨_, rfl⟩
  rw [hwB] at hW HSZ O1 O2
  have c0 := cell_later (j := 0) O1.out (Below.refl _ _)
  have c1 := cell_later (j := 1) O1.out (Below.refl _ _)
  simp at c0 c1
  obtain ⟨r, hr⟩ : ∃ r, aroundB q = r := ⟨_, rfl⟩
  rw [hr]
  have HRR := Lib.hid hr
  clear hr
  go_enter Tryz.func37, Tryz.ntmps37
  go_wp2_with fail
  try rw [hwB]
  refine (rright_ok _ N D h).mono ?_
  rintro e w1 ⟨rfl, hb1⟩
  have x0 := cell_later (j := 0) O1.out hb1
  have x1 := cell_later (j := 1) O1.out hb1
  simp at x0 x1
  go_wp2_with fail
  refine (rin_any _ N D q h).mono ?_
  rintro e w2 ⟨b2, A2, l2, c2, B2, m2, d2, rfl, hs2, hA2, hB2, hx2⟩
  have hwa : Below w2.heap.size w2 (w2.alloc (.cells #[.bool b2, .slice A2 l2 c2, .bool false, .slice B2 m2 d2] 108)) := (Below.refl _ _).alloc (Nat.le_refl _) _
  have HA := Lib.hid (hA2.below hwa)
  have HB := Lib.hid (hB2.below hwa)
  have hc2 := chain (chain hb1 hx2) hwa
  clear hA2 hB2
  go_wp2_with fail
  refine (tight_any _ b2 A2 l2 c2 B2 m2 d2 q hs2 HA.out HB.out (by decide)).mono ?_
  rintro e w3 ⟨rfl, hx3⟩
  rw [HRR.out]
  have hc3 := chain hc2 hx3
  have r0 := cell_later (j := 0) O2.out hc3
  have r1 := cell_later (j := 1) O2.out hc3
  have rf0 := frozen_later O2.out hc3 0
  have rf1 := frozen_later O2.out hc3 1
  simp at r0 r1
  have hWF := chain hW hc3
  have hs3 := hWF.size
  go_wp2_with fail
  refine bodyPost_ret (v := .tuple #[bandV r.lo r.hi, .int .i64 r.e]) (by simp [results, Tryz.results37, go_sem, r0, r1]) rfl ⟨rfl, ?_⟩
  repeat (first | with_reducible exact hWF | (with_reducible refine Below.setCell ?_ (by first | omega | (simp <;> omega)) _))
theorem raround_bad (w : World) (N D : ByteArray) (hsN : N.size ≤ 1000000) (hsD : D.size ≤ 1000000) (h : ¬ ∃ q, VQ N D q) :
    Calls Tryz.prog 37 #[.agg #[.string N, .string D]] w (RetB w (.bad 20)) := by
  have hW : Below w.heap.size w ((w.alloc (.cells #[.string N, .string D] 51)).alloc (.cells #[.int .i64 0, .int .i64 0] 23)) := (((Below.refl w.heap.size w).alloc (Nat.le_refl _) _).alloc (by simp <;> omega) _)
  have o1 := heap_more (heap_last w (.cells #[.string N, .string D] 51)) (.cells #[.int .i64 0, .int .i64 0] 23)
  have O1 := Lib.hid o1
  clear o1
  have o2 := heap_last (w.alloc (.cells #[.string N, .string D] 51)) (.cells #[.int .i64 0, .int .i64 0] 23)
  rw [show (w.alloc (.cells #[.string N, .string D] 51)).heap.size = w.heap.size + 1 by simp] at o2
  have O2 := Lib.hid o2
  clear o2
  have hsz : ((w.alloc (.cells #[.string N, .string D] 51)).alloc (.cells #[.int .i64 0, .int .i64 0] 23)).heap.size = w.heap.size + 1 + 1 := by simp
  have HSZ := Lib.hid hsz
  clear hsz
  obtain ⟨wB, hwB⟩ : ∃ x, ((w.alloc (.cells #[.string N, .string D] 51)).alloc (.cells #[.int .i64 0, .int .i64 0] 23)) = x := ⟨_, rfl⟩
  rw [hwB] at hW HSZ O1 O2
  have c0 := cell_later (j := 0) O1.out (Below.refl _ _)
  have c1 := cell_later (j := 1) O1.out (Below.refl _ _)
  simp at c0 c1
  go_enter Tryz.func37, Tryz.ntmps37
  go_wp2_with fail
  try rw [hwB]
  refine (rright_bad _ N D hsN hsD h).mono ?_
  rintro e w1 ⟨rfl, hb1⟩
  have r0 := cell_later (j := 0) O2.out hb1
  have r1 := cell_later (j := 1) O2.out hb1
  have rf0 := frozen_later O2.out hb1 0
  have rf1 := frozen_later O2.out hb1 1
  simp at r0 r1
  have hWF := chain hW hb1
  have hs3 := hWF.size
  go_wp2_with fail
  refine bodyPost_ret (v := .tuple #[bandV 0 0, .int .i64 20]) (by simp [results, Tryz.results37, go_sem, r0, r1]) rfl ⟨rfl, ?_⟩
  repeat (first | with_reducible exact hWF | (with_reducible refine Below.setCell ?_ (by first | omega | (simp <;> omega)) _))
end Go.Proofs.YtkajibniibjblaaGreatDoor.P4

namespace Go.Proofs.YtkajibniibjblaaGreatDoor.P4
open Go.RowKit
set_option maxRecDepth 100000

theorem cross_le (a b : Rat) : (a.num * (b.den : Int) - b.num * (a.den : Int)).sign ≤ 0 ↔ a ≤ b := by
  rw [Rat.le_iff]
  rcases sign_cases (a.num * (b.den : Int) - b.num * (a.den : Int)) with ⟨h, e⟩ | ⟨h, e⟩ | ⟨h, e⟩ <;> rw [e] <;> constructor <;> intro _ <;> omega
theorem unit_le (i : Int) (q : Rat) : mkRat i 1000000000000 ≤ q ↔ (i : Rat) ≤ q * 1000000000000 := by
  rw [Rat.mkRat_eq_div]
  constructor
  · intro h; grind
  · intro h; grind
theorem le_unit (i : Int) (q : Rat) : q ≤ mkRat i 1000000000000 ↔ q * 1000000000000 ≤ (i : Rat) := by
  rw [Rat.mkRat_eq_div]
  constructor
  · intro h; grind
  · intro h; grind
theorem has_signs (lo hi : Int) (q : Rat) : hasB lo hi q = (decide (((mkRat lo 1000000000000).num * (q.den : Int) - q.num * ((mkRat lo 1000000000000).den : Int)).sign ≤ 0) && decide ((q.num * ((mkRat hi 1000000000000).den : Int) - (mkRat hi 1000000000000).num * (q.den : Int)).sign ≤ 0)) := by
  rw [Bool.eq_iff_iff, has_iff, Bool.and_eq_true, decide_eq_true_iff, decide_eq_true_iff, cross_le, cross_le, unit_le, le_unit]
theorem rhas_band (w : World) (lo hi : Int) (N D : ByteArray) (h : okB lo hi = false) :
    Calls Tryz.prog 39 #[bandV lo hi, .agg #[.string N, .string D]] w (RetH w false 30) := by
  have hW : Below w.heap.size w ((w.alloc (.cells #[.int .i64 lo, .int .i64 hi] 23)).alloc (.cells #[.string N, .string D] 51)) := (((Below.refl w.heap.size w).alloc (Nat.le_refl _) _).alloc (by simp <;> omega) _)
  have o1 := heap_more (heap_last w (.cells #[.int .i64 lo, .int .i64 hi] 23)) (.cells #[.string N, .string D] 51)
  have O1 := Lib.hid o1
  clear o1
  have o2 := heap_last (w.alloc (.cells #[.int .i64 lo, .int .i64 hi] 23)) (.cells #[.string N, .string D] 51)
  rw [show (w.alloc (.cells #[.int .i64 lo, .int .i64 hi] 23)).heap.size = w.heap.size + 1 by simp] at o2
  have O2 := Lib.hid o2
  clear o2
  have hsz : ((w.alloc (.cells #[.int .i64 lo, .int .i64 hi] 23)).alloc (.cells #[.string N, .string D] 51)).heap.size = w.heap.size + 1 + 1 := by simp
  have HSZ := Lib.hid hsz
  clear hsz
  obtain ⟨wB, hwB⟩ : ∃ x, ((w.alloc (.cells #[.int .i64 lo, .int .i64 hi] 23)).alloc (.cells #[.string N, .string D] 51)) = x := ⟨_, rfl⟩
  rw [hwB] at hW HSZ O1 O2
  have c0 := cell_later (j := 0) O1.out (Below.refl _ _)
  have c1 := cell_later (j := 1) O1.out (Below.refl _ _)
  have d0 := cell_later (j := 0) O2.out (Below.refl _ _)
  have d1 := cell_later (j := 1) O2.out (Below.refl _ _)
  simp at c0 c1 d0 d1
  go_enter Tryz.func39, Tryz.ntmps39
  go_wp2_with fail
  try rw [hwB]
  refine (bright_any _ lo hi).mono ?_
  rintro e w1 ⟨rfl, hb1⟩
  rw [h]
  go_wp2_with fail
  all_goals refine bodyPost_ret (v := .tuple #[.bool false, .int .i64 30]) (by simp [results, Tryz.results39, go_sem]) rfl ⟨rfl, chain hW hb1⟩
theorem rhas_bad (w : World) (lo hi : Int) (N D : ByteArray) (hok : okB lo hi = true) (hsN : N.size ≤ 1000000) (hsD : D.size ≤ 1000000) (h : ¬ ∃ q, VQ N D q) :
    Calls Tryz.prog 39 #[bandV lo hi, .agg #[.string N, .string D]] w (RetH w false 20) := by
  have hW : Below w.heap.size w ((w.alloc (.cells #[.int .i64 lo, .int .i64 hi] 23)).alloc (.cells #[.string N, .string D] 51)) := (((Below.refl w.heap.size w).alloc (Nat.le_refl _) _).alloc (by simp <;> omega) _)
  have o1 := heap_more (heap_last w (.cells #[.int .i64 lo, .int .i64 hi] 23)) (.cells #[.string N, .string D] 51)
  have O1 := Lib.hid o1
  clear o1
  have o2 := heap_last (w.alloc (.cells #[.int .i64 lo, .int .i64 hi] 23)) (.cells #[.string N, .string D] 51)
  rw [show (w.alloc (.cells #[.int .i64 lo, .int .i64 hi] 23)).heap.size = w.heap.size + 1 by simp] at o2
  have O2 := Lib.hid o2
  clear o2
  have hsz : ((w.alloc (.cells #[.int .i64 lo, .int .i64 hi] 23)).alloc (.cells #[.string N, .string D] 51)).heap.size = w.heap.size + 1 + 1 := by simp
  have HSZ := Lib.hid hsz
  clear hsz
  obtain ⟨wB, hwB⟩ : ∃ x, ((w.alloc (.cells #[.int .i64 lo, .int .i64 hi] 23)).alloc (.cells #[.string N, .string D] 51)) = x := ⟨_, rfl⟩
  rw [hwB] at hW HSZ O1 O2
  have c0 := cell_later (j := 0) O1.out (Below.refl _ _)
  have c1 := cell_later (j := 1) O1.out (Below.refl _ _)
  have d0 := cell_later (j := 0) O2.out (Below.refl _ _)
  have d1 := cell_later (j := 1) O2.out (Below.refl _ _)
  simp at c0 c1 d0 d1
  go_enter Tryz.func39, Tryz.ntmps39
  go_wp2_with fail
  try rw [hwB]
  refine (bright_any _ lo hi).mono ?_
  rintro e w1 ⟨rfl, hb1⟩
  rw [hok]
  have e0 := cell_later (j := 0) O2.out hb1
  have e1 := cell_later (j := 1) O2.out hb1
  simp at e0 e1
  go_wp2_with fail
  refine (rright_bad _ N D hsN hsD h).mono ?_
  rintro e w2 ⟨rfl, hb2⟩
  have hb12 := chain hb1 hb2
  go_wp2_with fail
  all_goals refine bodyPost_ret (v := .tuple #[.bool false, .int .i64 20]) (by simp [results, Tryz.results39, go_sem]) rfl ⟨rfl, chain hW hb12⟩
set_option maxHeartbeats 4000000 in
theorem rhas_ok (w : World) (lo hi : Int) (N D : ByteArray) {q : Rat} (hok : okB lo hi = true) (h : VQ N D q) :
    Calls Tryz.prog 39 #[bandV lo hi, .agg #[.string N, .string D]] w (RetH w (hasB lo hi q) 0) := by
  have hW : Below w.heap.size w ((w.alloc (.cells #[.int .i64 lo, .int .i64 hi] 23)).alloc (.cells #[.string N, .string D] 51)) := (((Below.refl w.heap.size w).alloc (Nat.le_refl _) _).alloc (by simp <;> omega) _)
  have o1 := heap_more (heap_last w (.cells #[.int .i64 lo, .int .i64 hi] 23)) (.cells #[.string N, .string D] 51)
  have O1 := Lib.hid o1
  clear o1
  have o2 := heap_last (w.alloc (.cells #[.int .i64 lo, .int .i64 hi] 23)) (.cells #[.string N, .string D] 51)
  rw [show (w.alloc (.cells #[.int .i64 lo, .int .i64 hi] 23)).heap.size = w.heap.size + 1 by simp] at o2
  have O2 := Lib.hid o2
  clear o2
  have hsz : ((w.alloc (.cells #[.int .i64 lo, .int .i64 hi] 23)).alloc (.cells #[.string N, .string D] 51)).heap.size = w.heap.size + 1 + 1 := by simp
  have HSZ := Lib.hid hsz
  clear hsz
  obtain ⟨wB, hwB⟩ : ∃ x, ((w.alloc (.cells #[.int .i64 lo, .int .i64 hi] 23)).alloc (.cells #[.string N, .string D] 51)) = x := ⟨_, rfl⟩
  rw [hwB] at hW HSZ O1 O2
  have c0 := cell_later (j := 0) O1.out (Below.refl _ _)
  have c1 := cell_later (j := 1) O1.out (Below.refl _ _)
  have d0 := cell_later (j := 0) O2.out (Below.refl _ _)
  have d1 := cell_later (j := 1) O2.out (Below.refl _ _)
  simp at c0 c1 d0 d1
  have hbd := (ok_iff _ _).1 hok
  have hb0 : -9223372036854775808 ≤ lo := by omega
  have hb1' : lo ≤ 9223372036854775807 := by omega
  have hb2' : -9223372036854775808 ≤ hi := by omega
  have hb3' : hi ≤ 9223372036854775807 := by omega
  clear hbd
  have HSG := Lib.hid (has_signs lo hi q)
  obtain ⟨P, hP⟩ : ∃ P, mkRat lo 1000000000000 = P := ⟨_, rfl⟩
  obtain ⟨R, hR⟩ : ∃ R, mkRat hi 1000000000000 = R := ⟨_, rfl⟩
  rw [hP, hR] at HSG
  have HPP := Lib.hid hP
  have HRR := Lib.hid hR
  clear hP hR
  obtain ⟨s1, hs1⟩ : ∃ s : Int, (P.num * (q.den : Int) - q.num * (P.den : Int)).sign = s := ⟨_, rfl⟩
  obtain ⟨s2, hs2⟩ : ∃ s : Int, (q.num * (R.den : Int) - R.num * (q.den : Int)).sign = s := ⟨_, rfl⟩
  rw [hs1, hs2] at HSG
  have hs3 : s1 = -1 ∨ s1 = 0 ∨ s1 = 1 := by rcases sign_cases (P.num * (q.den : Int) - q.num * (P.den : Int)) with ⟨_, e⟩ | ⟨_, e⟩ | ⟨_, e⟩ <;> omega
  have H1 := Lib.hid hs1
  have H2 := Lib.hid hs2
  clear hs1 hs2
  go_enter Tryz.func39, Tryz.ntmps39
  go_wp2_with fail
  try rw [hwB]
  refine (bright_any _ lo hi).mono ?_
  rintro e w1 ⟨rfl, hb1⟩
  rw [hok]
  have e0 := cell_later (j := 0) O2.out hb1
  have e1 := cell_later (j := 1) O2.out hb1
  simp at e0 e1
  go_wp2_with fail
  refine (rright_ok _ N D h).mono ?_
  rintro e w2 ⟨rfl, hb2⟩
  have hb12 := chain hb1 hb2
  have g0 := cell_later (j := 0) O2.out hb12
  have g1 := cell_later (j := 1) O2.out hb12
  simp at g0 g1
  go_wp2_with fail
  refine (rin_any _ N D q h).mono ?_
  rintro e w3 ⟨b2, A2, l2, c2, B2, m2, d2, rfl, hsq, hA2, hB2, hx3⟩
  obtain ⟨wz, hwz⟩ : ∃ x, w3.alloc (.cells #[.bool b2, .slice A2 l2 c2, .bool false, .slice B2 m2 d2] 108) = x := ⟨_, rfl⟩
  have hwa : Below w3.heap.size w3 wz := by rw [← hwz]; exact (Below.refl _ _).alloc (Nat.le_refl _) _
  have OG := Lib.hid (heap_last w3 (.cells #[.bool b2, .slice A2 l2 c2, .bool false, .slice B2 m2 d2] 108))
  rw [hwz] at OG
  have HA := Lib.hid (hA2.below hwa)
  have HB := Lib.hid (hB2.below hwa)
  have hcz := chain (chain hb12 hx3) hwa
  have OBz := Lib.hid (blk_later O1.out hcz)
  clear hA2 hB2 c0 c1 d0 d1 e0 e1 g0 g1
  go_wp2_with fail
  have hd0 : Below wz.heap.size wz wz.drew := (Below.refl _ _).drew
  have HS : Hid (∀ w', Below wz.heap.size wz w' → w'.cell? ⟨w.heap.size, 0, none⟩ = some (.int .i64 lo) ∧ w'.cell? ⟨w.heap.size, 1, none⟩ = some (.int .i64 hi) ∧ w'.cell? ⟨w3.heap.size, 0, none⟩ = some (.bool b2) ∧ w'.cell? ⟨w3.heap.size, 1, none⟩ = some (.slice A2 l2 c2) ∧ w'.cell? ⟨w3.heap.size, 2, none⟩ = some (.bool false) ∧ w'.cell? ⟨w3.heap.size, 3, none⟩ = some (.slice B2 m2 d2)) := fun w' h => ⟨(cell_later (j := 0) OBz.out h).trans (by simp), (cell_later (j := 1) OBz.out h).trans (by simp), (cell_later (j := 0) OG.out h).trans (by simp), (cell_later (j := 1) OG.out h).trans (by simp), (cell_later (j := 2) OG.out h).trans (by simp), (cell_later (j := 3) OG.out h).trans (by simp)⟩
  have hWz := chain hW hcz
  rcases hs3 with rfl | rfl | rfl
  · have HB2 : Hid (hasB lo hi q = decide (s2 ≤ 0)) := by show _ = _; rw [HSG.out]; rfl
    go_region_held3 (fun w' => w'.cell? ⟨w.heap.size, 0, none⟩ = some (.int .i64 lo) ∧ w'.cell? ⟨w.heap.size, 1, none⟩ = some (.int .i64 hi) ∧ w'.cell? ⟨w3.heap.size, 0, none⟩ = some (.bool b2) ∧ w'.cell? ⟨w3.heap.size, 1, none⟩ = some (.slice A2 l2 c2) ∧ w'.cell? ⟨w3.heap.size, 2, none⟩ = some (.bool false) ∧ w'.cell? ⟨w3.heap.size, 3, none⟩ = some (.slice B2 m2 d2))
      (first | with_reducible exact HS.out _ hd0 | with_reducible exact HS.out _ hd1 | with_reducible exact HS.out _ hd2 | with_reducible exact HS.out _ hd3 | with_reducible exact HS.out _ hd4)
      (first
        | (go_at_call 98; (fail_if_success (have hq := hd1)); (refine (rvalue_any _ lo hb0 hb1').mono ?_); rintro e v1 ⟨p1, P1, i1, j1, Q1, k1, m1, rfl, hsp, hP1, hQ1, hx4⟩; have hd1 := chain hd0 hx4; rw [HPP.out] at hsp hP1 hQ1)
        | (go_at_call 97; (fail_if_success (have hq := hd2)); (refine (rorder_any _ p1 P1 i1 j1 Q1 k1 m1 P hsp hP1 hQ1 b2 A2 l2 c2 B2 m2 d2 q hsq (HA.out.below hd1) (HB.out.below hd1) (by decide) (by decide)).mono ?_); rintro e v2 ⟨rfl, hx5⟩; have hd2 := chain hd1 hx5; rw [H1.out])
        | (go_at_call 98; (fail_if_success (have hq := hd3)); (refine (rvalue_any _ hi hb2' hb3').mono ?_); rintro e v3 ⟨p3, P3, i3, j3, Q3, k3, m3, rfl, hsr, hP3, hQ3, hx6⟩; have hd3 := chain hd2 hx6; rw [HRR.out] at hsr hP3 hQ3)
        | (go_at_call 97; (refine (rorder_any _ b2 A2 l2 c2 B2 m2 d2 q hsq (HA.out.below hd3) (HB.out.below hd3) p3 P3 i3 j3 Q3 k3 m3 R hsr hP3 hQ3 (by decide) (by decide)).mono ?_); rintro e v4 ⟨rfl, hx7⟩; have hd4 := chain hd3 hx7; rw [H2.out]))
    go_wp2_with fail
    rw [HB2.out]
    all_goals refine bodyPost_ret (v := .tuple #[.bool (decide (s2 ≤ 0)), .int .i64 0]) (by simp [results, Tryz.results39, go_sem]) rfl ⟨rfl, chain hWz hd4⟩
  · have HB2 : Hid (hasB lo hi q = decide (s2 ≤ 0)) := by show _ = _; rw [HSG.out]; rfl
    go_region_held3 (fun w' => w'.cell? ⟨w.heap.size, 0, none⟩ = some (.int .i64 lo) ∧ w'.cell? ⟨w.heap.size, 1, none⟩ = some (.int .i64 hi) ∧ w'.cell? ⟨w3.heap.size, 0, none⟩ = some (.bool b2) ∧ w'.cell? ⟨w3.heap.size, 1, none⟩ = some (.slice A2 l2 c2) ∧ w'.cell? ⟨w3.heap.size, 2, none⟩ = some (.bool false) ∧ w'.cell? ⟨w3.heap.size, 3, none⟩ = some (.slice B2 m2 d2))
      (first | with_reducible exact HS.out _ hd0 | with_reducible exact HS.out _ hd1 | with_reducible exact HS.out _ hd2 | with_reducible exact HS.out _ hd3 | with_reducible exact HS.out _ hd4)
      (first
        | (go_at_call 98; (fail_if_success (have hq := hd1)); (refine (rvalue_any _ lo hb0 hb1').mono ?_); rintro e v1 ⟨p1, P1, i1, j1, Q1, k1, m1, rfl, hsp, hP1, hQ1, hx4⟩; have hd1 := chain hd0 hx4; rw [HPP.out] at hsp hP1 hQ1)
        | (go_at_call 97; (fail_if_success (have hq := hd2)); (refine (rorder_any _ p1 P1 i1 j1 Q1 k1 m1 P hsp hP1 hQ1 b2 A2 l2 c2 B2 m2 d2 q hsq (HA.out.below hd1) (HB.out.below hd1) (by decide) (by decide)).mono ?_); rintro e v2 ⟨rfl, hx5⟩; have hd2 := chain hd1 hx5; rw [H1.out])
        | (go_at_call 98; (fail_if_success (have hq := hd3)); (refine (rvalue_any _ hi hb2' hb3').mono ?_); rintro e v3 ⟨p3, P3, i3, j3, Q3, k3, m3, rfl, hsr, hP3, hQ3, hx6⟩; have hd3 := chain hd2 hx6; rw [HRR.out] at hsr hP3 hQ3)
        | (go_at_call 97; (refine (rorder_any _ b2 A2 l2 c2 B2 m2 d2 q hsq (HA.out.below hd3) (HB.out.below hd3) p3 P3 i3 j3 Q3 k3 m3 R hsr hP3 hQ3 (by decide) (by decide)).mono ?_); rintro e v4 ⟨rfl, hx7⟩; have hd4 := chain hd3 hx7; rw [H2.out]))
    go_wp2_with fail
    rw [HB2.out]
    all_goals refine bodyPost_ret (v := .tuple #[.bool (decide (s2 ≤ 0)), .int .i64 0]) (by simp [results, Tryz.results39, go_sem]) rfl ⟨rfl, chain hWz hd4⟩
  · have HB2 : Hid (hasB lo hi q = false) := by show _ = _; rw [HSG.out]; rfl
    obtain ⟨c0, c1, c2', c3, c4, c5⟩ := HS.out _ (Below.refl _ _)
    first
      | go_region_with (first
        | (go_at_call 98; (fail_if_success (have hq := hd1)); (refine (rvalue_any _ lo hb0 hb1').mono ?_); rintro e v1 ⟨p1, P1, i1, j1, Q1, k1, m1, rfl, hsp, hP1, hQ1, hx4⟩; have hd1 := chain hd0 hx4; rw [HPP.out] at hsp hP1 hQ1; obtain ⟨e0, e1, e2, e3, e4, e5⟩ := HS.out _ hd1)
        | (go_at_call 97; (fail_if_success (have hq := hd2)); (refine (rorder_any _ p1 P1 i1 j1 Q1 k1 m1 P hsp hP1 hQ1 b2 A2 l2 c2 B2 m2 d2 q hsq (HA.out.below hd1) (HB.out.below hd1) (by decide) (by decide)).mono ?_); rintro e v2 ⟨rfl, hx5⟩; have hd2 := chain hd1 hx5; rw [H1.out]; obtain ⟨g0, g1, g2, g3, g4, g5⟩ := HS.out _ hd2))
      | fail
    all_goals go_wp2_with fail
    all_goals rw [HB2.out]
    all_goals refine bodyPost_ret (v := .tuple #[.bool false, .int .i64 0]) (by simp [results, Tryz.results39, go_sem]) rfl ⟨rfl, chain hWz hd2⟩
end Go.Proofs.YtkajibniibjblaaGreatDoor.P4

namespace Go.Proofs.YtkajibniibjblaaGreatDoor.P4
open Go.RowKit
set_option maxRecDepth 100000

/-- A number in a block of two cells, of a world. -/
def Num2 (w : World) (g : Nat) (L : Nat) (z : Int) (b : Bool) (A : Option Addr) (l c : Nat) : Prop :=
  w.cell? ⟨g, 0, none⟩ = some (.bool b) ∧ w.cell? ⟨g, 1, none⟩ = some (.slice A l c) ∧ w.frozen? ⟨g, 0, none⟩ = false ∧ w.frozen? ⟨g, 1, none⟩ = false ∧ (∀ o, 2 ≤ o → w.cell? ⟨g, o, none⟩ = none) ∧ Hid (b = decide (z < 0)) ∧ Ms w L A l c z.natAbs
theorem Num2.new {w : World} {L : Nat} {z : Int} {b : Bool} {A : Option Addr} {l c : Nat} {T : TypeId} (hb : Hid (b = decide (z < 0))) (hm : Ms w L A l c z.natAbs) : Num2 (w.alloc (.cells #[.bool b, .slice A l c] T)) w.heap.size L z b A l c :=
  ⟨by simp [World.cell?_alloc_new], by simp [World.cell?_alloc_new], by simp, by simp, fun o ho => by rw [World.cell?_alloc_new]; exact Array.getElem?_eq_none (by simpa using ho), hb, hm.below ((Below.refl _ _).alloc (Nat.le_refl _) _)⟩
/-- A new number is stored in the block, behind a call that leaves old memory. -/
theorem Num2.store {w w2 : World} {g L L2 : Nat} {z y : Int} {b b2 : Bool} {A A2 : Option Addr} {l c l2 c2 : Nat} (h : Num2 w g L z b A l c) (hb : Below w.heap.size w w2) (hs : Hid (b2 = decide (y < 0))) (hm : Ms w2 L2 A2 l2 c2 y.natAbs) :
    Num2 ((w2.setCell ⟨g, 0, none⟩ (.bool b2)).setCell ⟨g, 1, none⟩ (.slice A2 l2 c2)) g L2 y b2 A2 l2 c2 := by
  obtain ⟨h0, h1, f0, f1, hn, -, -⟩ := h
  have lt := World.block_lt_of_cell? _ _ h0
  have e0 := (hb.cell (p := ⟨g, 0, none⟩) lt).trans h0
  have e1 := (hb.cell (p := ⟨g, 1, none⟩) lt).trans h1
  have en : ∀ o, 2 ≤ o → w2.cell? ⟨g, o, none⟩ = none := fun o ho => (hb.cell (p := ⟨g, o, none⟩) lt).trans (hn o ho)
  have q0 := ((bcell hb).2 g 0 lt).trans f0
  have q1 := ((bcell hb).2 g 1 lt).trans f1
  have hne := hm.off_no e0 e1 en (by simp) (by simp)
  refine ⟨(World.cell?_setCell_other _ _ _ _ (by simp)).trans (World.cell?_setCell_same _ _ _ e0), World.cell?_setCell_same _ _ _ ((World.cell?_setCell_other _ _ _ _ (by simp)).trans e1), by simpa using q0, by simpa using q1, fun o ho => ?_, hs, (hm.setCell hne).setCell hne⟩
  exact (World.cell?_setCell_other _ _ _ _ (by simp <;> omega)).trans ((World.cell?_setCell_other _ _ _ _ (by simp <;> omega)).trans (en o ho))
set_option maxHeartbeats 1000000 in
theorem raised_any (w : World) {L : Nat} (bl : Bool) (A : Option Addr) (n c : Nat) (z : Int) (hbl : Hid (bl = decide (z < 0))) (ha : Ms w L A n c z.natAbs) (k : Nat) (hk : k ≤ 1000) (hL : L ≤ 1000) :
    Calls Tryz.prog 125 #[.agg #[.bool bl, .slice A n c], .int .i64 (k : Int)] w (RetP w (5 + L * k) (z ^ k)) := by
  have hW : Below w.heap.size w ((w.alloc (.cells #[.bool bl, .slice A n c] 102)).alloc (.cells #[.bool false, .slice none 0 0] 102)) := (((Below.refl w.heap.size w).alloc (Nat.le_refl _) _).alloc (by simp <;> omega) _)
  have o1 := heap_more (heap_last w (.cells #[.bool bl, .slice A n c] 102)) (.cells #[.bool false, .slice none 0 0] 102)
  have O1 := Lib.hid o1
  clear o1
  have o2 := heap_last (w.alloc (.cells #[.bool bl, .slice A n c] 102)) (.cells #[.bool false, .slice none 0 0] 102)
  rw [show (w.alloc (.cells #[.bool bl, .slice A n c] 102)).heap.size = w.heap.size + 1 by simp] at o2
  have O2 := Lib.hid o2
  clear o2
  have hsz : ((w.alloc (.cells #[.bool bl, .slice A n c] 102)).alloc (.cells #[.bool false, .slice none 0 0] 102)).heap.size = w.heap.size + 1 + 1 := by simp
  have HSZ := Lib.hid hsz
  clear hsz
  obtain ⟨wB, hwB⟩ : ∃ x, ((w.alloc (.cells #[.bool bl, .slice A n c] 102)).alloc (.cells #[.bool false, .slice none 0 0] 102)) = x := ⟨_, rfl⟩
  rw [hwB] at hW HSZ O1 O2
  have ha1 := Lib.hid (ha.below hW)
  clear ha
  go_enter Tryz.func125, Tryz.ntmps125
  go_wp2_with fail
  try rw [hwB]
  refine (integer_any _ 1 (by decide) (by decide)).mono ?_
  rintro e w1 ⟨b1, A1, l1, c1, rfl, hs1, hA1, hx1⟩
  have hn0 : Num2 (w1.alloc (.cells #[.bool b1, .slice A1 l1 c1] 102)) w1.heap.size 5 1 b1 A1 l1 c1 := Num2.new hs1 hA1
  have hW1 := chain hW hx1
  have hz1 := hx1.size
  rw [HSZ.out] at hz1
  obtain ⟨wz, hwz⟩ : ∃ x, w1.alloc (.cells #[.bool b1, .slice A1 l1 c1] 102) = x := ⟨_, rfl⟩
  have hbz : Below w1.heap.size w1 wz := by rw [← hwz]; exact (Below.refl _ _).alloc (Nat.le_refl _) _
  rw [hwz] at hn0
  obtain ⟨g, hg⟩ : ∃ g, w1.heap.size = g := ⟨_, rfl⟩
  rw [hg] at hn0 hbz
  have HG := Lib.hid hg
  clear hA1 hs1
  go_wp2_with fail
  try rw [hg]
  go_loopw [6] (fun iv wr => ∃ (j : Nat) (b : Bool) (A' : Option Addr) (l c' : Nat), j ≤ k ∧ iv = .int .i64 (j : Int) ∧ Num2 wr g (5 + L * j) (z ^ j) b A' l c' ∧ Below g w1 wr) (fun iv _ => k - (intOf iv).toNat)
  case atStart => exact ⟨0, b1, A1, l1, c1, Nat.zero_le _, rfl, by rw [Nat.mul_zero, Int.pow_zero]; exact hn0, hbz⟩
  case round =>
    obtain ⟨j, b, A', l, c', hj, rfl, hnum, hbr⟩ := hrel
    obtain ⟨h0, h1, f0, f1, hno, hsb, hmb⟩ := hnum
    have HNM : Hid (Num2 wr g (5 + L * j) (z ^ j) b A' l c') := ⟨h0, h1, f0, f1, hno, hsb, hmb⟩
    have HMB := Lib.hid hmb
    have hgw : w1.heap.size = g := HG.out
    have hbr1 : Below w1.heap.size w1 wr := by rw [hgw]; exact hbr
    have hcr := chain hx1 hbr1
    have x0 := cell_later (j := 0) O1.out hcr
    have x1 := cell_later (j := 1) O1.out hcr
    simp at x0 x1
    have hLj : L * j ≤ 1000000 := (Nat.mul_le_mul hL (show j ≤ 1000 by omega) : _)
    have HLJ := Lib.hid hLj
    clear hno hmb hLj hgw
    by_cases hjk : j < k
    · go_wp2_with fail
      refine (ptimes_any _ b A' l c' (z ^ j) hsb HMB.out bl A n c z hbl (ha1.out.below hcr) (by have := HLJ.out; omega) (by omega)).mono ?_
      rintro e w5 ⟨b5, A5, l5, c5, rfl, hs5, hA5, hx5⟩
      have HST := Lib.hid (Num2.store HNM.out hx5 hs5 hA5)
      have lt := World.block_lt_of_cell? _ _ h0
      have k0 := (hx5.cell (p := ⟨g, 0, none⟩) lt).trans h0
      have k1 := (hx5.cell (p := ⟨g, 1, none⟩) lt).trans h1
      have q0 := ((bcell hx5).2 g 0 lt).trans f0
      have q1 := ((bcell hx5).2 g 1 lt).trans f1
      clear h0 h1 f0 f1 hA5
      go_wp2_with fail
      go_roundw
      case rel => exact ⟨j + 1, b5, A5, l5, c5, by omega, by go_num, by rw [Int.pow_succ, Nat.mul_succ, ← Nat.add_assoc]; exact HST.out, ((hbr.trans (hx5.mono (by have := hbr.size; omega))).setCell (Nat.le_refl _) _).setCell (Nat.le_refl _) _⟩
      case measure => simp [intOf] <;> omega
    · obtain rfl : j = k := by omega
      have r0 := cell_later (j := 0) O2.out hcr
      have r1 := cell_later (j := 1) O2.out hcr
      have rf0 := frozen_later O2.out hcr 0
      have rf1 := frozen_later O2.out hcr 1
      simp at r0 r1
      have hWE := chain hW hcr
      have hbs := hWE.size
      have HF := Lib.hid (HMB.out.off (g := w.heap.size + 1) (blk_later O2.out hcr) (by simp) (by simp))
      go_wp2_with fail
      refine bodyPost_ret (v := .agg #[.bool b, .slice A' l c']) (by simp [results, Tryz.results125, go_sem]; go_simp) rfl ⟨_, _, _, _, rfl, hsb, ?_, ?_⟩
      · repeat (first | with_reducible exact HMB.out | with_reducible refine Ms.setCell ?_ HF.out)
      · repeat (first | with_reducible exact hWE | (with_reducible refine Below.setCell ?_ (by first | omega | (simp <;> omega)) _))
end Go.Proofs.YtkajibniibjblaaGreatDoor.P4

namespace Go.Proofs.YtkajibniibjblaaGreatDoor.P4
open Go.RowKit
set_option maxRecDepth 100000

/-- A block of two cells, behind two stores. -/
theorem blk_store {w : World} {g : Nat} {v0 v1 u0 u1 : Value} {T : TypeId} (h : w.heap[g]? = some (.cells #[v0, v1] T (0, 0))) :
    ((w.setCell ⟨g, 0, none⟩ u0).setCell ⟨g, 1, none⟩ u1).heap[g]? = some (.cells #[u0, u1] T (0, 0)) := by
  rw [heap_setCell_same _ g 1 _ _ _ (heap_setCell_same w g 0 _ _ u0 h)]
  rfl
theorem blk_far {w : World} {g k j : Nat} {u : Value} {o : Obj} (h : w.heap[k]? = some o) (hk : k ≠ g) : (w.setCell ⟨g, j, none⟩ u).heap[k]? = some o := by
  rw [heap_setCell_other _ _ _ _ hk]; exact h
set_option maxHeartbeats 4000000 in
theorem rlowest_neg (w : World) {L : Nat} (bl : Bool) (A : Option Addr) (n c : Nat) (y : Int) (hbl0 : Hid (bl = decide (y < 0))) (ha : Ms w L A n c y.natAbs) (B : Option Addr) (m d : Nat) (b : Nat) (hb : Ms w L B m d b) (hb0 : 0 < b) (hL : L ≤ 100000000) :
    Calls Tryz.prog 81 #[.agg #[.bool bl, .slice A n c], .agg #[.bool true, .slice B m d]] w (RetR w L (mkRat (-y) b)) := by
  obtain ⟨y', hy'⟩ : ∃ y', -y = y' := ⟨_, rfl⟩
  rw [hy']
  have HY := Lib.hid hy'
  clear hy'
  obtain ⟨g, hg⟩ : ∃ g, Nat.gcd y'.natAbs b = g := ⟨_, rfl⟩
  have hgp : 0 < g := by rw [← hg]; exact Nat.gcd_pos_of_pos_right _ hb0
  have hdy : g ∣ y'.natAbs := by rw [← hg]; exact Nat.gcd_dvd_left _ _
  have hdb : g ∣ b := by rw [← hg]; exact Nat.gcd_dvd_right _ _
  obtain ⟨c1, c2⟩ := norm_core y' g hgp hdy
  obtain ⟨q1, q2, q3⟩ := norm_num y' b hb0
  have HN : Hid ((y' / (g : Int)).natAbs = (mkRat y' b).num.natAbs) := by show _ = _; rw [c1, q1, hg]
  have HSG : Hid (decide (y' / (g : Int) < 0) = decide ((mkRat y' b).num < 0)) := by show _ = _; rw [c2, q3]
  have HDN : Hid (((b : Int) / (g : Int)).natAbs = (mkRat y' b).den) := by show _ = _; rw [q2, hg, ← Int.natCast_ediv, Int.natAbs_natCast]
  have HG := Lib.hid hg
  have hym : 0 ≤ y' ∨ y'.natAbs % ((g : Int)).natAbs = 0 := .inr (by rw [Int.natAbs_natCast]; exact Nat.mod_eq_zero_of_dvd hdy)
  have HYM := Lib.hid hym
  have hgz : (g : Int) ≠ 0 := by omega
  clear hg hdy hdb c1 c2 q1 q2 q3 hym
  have hW : Below w.heap.size w (((w.alloc (.cells #[.bool bl, .slice A n c] 102)).alloc (.cells #[.bool true, .slice B m d] 102)).alloc (.cells #[.bool false, .slice none 0 0, .bool false, .slice none 0 0] 108)) := ((((Below.refl w.heap.size w).alloc (Nat.le_refl _) _).alloc (by simp <;> omega) _).alloc (by simp <;> omega) _)
  have o1 := heap_more (heap_more (heap_last w (.cells #[.bool bl, .slice A n c] 102)) (.cells #[.bool true, .slice B m d] 102)) (.cells #[.bool false, .slice none 0 0, .bool false, .slice none 0 0] 108)
  have O1 := Lib.hid o1
  clear o1
  have o2 := heap_more (heap_last (w.alloc (.cells #[.bool bl, .slice A n c] 102)) (.cells #[.bool true, .slice B m d] 102)) (.cells #[.bool false, .slice none 0 0, .bool false, .slice none 0 0] 108)
  rw [show (w.alloc (.cells #[.bool bl, .slice A n c] 102)).heap.size = w.heap.size + 1 by simp] at o2
  have O2 := Lib.hid o2
  clear o2
  have o3 := heap_last ((w.alloc (.cells #[.bool bl, .slice A n c] 102)).alloc (.cells #[.bool true, .slice B m d] 102)) (.cells #[.bool false, .slice none 0 0, .bool false, .slice none 0 0] 108)
  rw [show ((w.alloc (.cells #[.bool bl, .slice A n c] 102)).alloc (.cells #[.bool true, .slice B m d] 102)).heap.size = w.heap.size + 1 + 1 by simp] at o3
  have O3 := Lib.hid o3
  clear o3
  have hsz : (((w.alloc (.cells #[.bool bl, .slice A n c] 102)).alloc (.cells #[.bool true, .slice B m d] 102)).alloc (.cells #[.bool false, .slice none 0 0, .bool false, .slice none 0 0] 108)).heap.size = w.heap.size + 1 + 1 + 1 := by simp
  have HSZ := Lib.hid hsz
  clear hsz
  have HA0 := Lib.hid (ha.below hW)
  have HBS : Hid (true = decide (-(b : Int) < 0)) := neg_sign rfl (by omega)
  obtain ⟨wB, hwB⟩ : ∃ x, (((w.alloc (.cells #[.bool bl, .slice A n c] 102)).alloc (.cells #[.bool true, .slice B m d] 102)).alloc (.cells #[.bool false, .slice none 0 0, .bool false, .slice none 0 0] 108)) = x := ⟨_, rfl⟩
  rw [hwB] at hW HSZ O1 O2 O3 HA0
  have HB0 : Hid (Ms wB L B m d ((-(b : Int))).natAbs) := by show Ms _ _ _ _ _ _; rw [Int.natAbs_neg, Int.natAbs_natCast]; exact hb.below hW
  clear ha hb
  have hd0 : Below wB.heap.size wB wB.drew := (Below.refl _ _).drew
  have z0 := cell_later (j := 0) O1.out (Below.refl _ _)
  have z1 := cell_later (j := 1) O1.out (Below.refl _ _)
  have z2 := cell_later (j := 0) O2.out (Below.refl _ _)
  have z3 := cell_later (j := 1) O2.out (Below.refl _ _)
  simp at z0 z1 z2 z3
  go_enter Tryz.func81, Tryz.ntmps81
  go_upto_region 2 with fail
  try rw [hwB]
  go_cut [2] (fun p wx => p = .pointer (some ⟨w.heap.size, 0, none⟩) ∧ ∃ bn An ln cn Bd md dd, wx.heap[w.heap.size]? = some (.cells #[.bool bn, .slice An ln cn] 102 (0, 0)) ∧ wx.heap[w.heap.size + 1]? = some (.cells #[.bool false, .slice Bd md dd] 102 (0, 0)) ∧ wx.heap[w.heap.size + 1 + 1]? = some (.cells #[.bool false, .slice none 0 0, .bool false, .slice none 0 0] 108 (0, 0)) ∧ Hid (bn = decide (y' < 0)) ∧ Ms wx L An ln cn y'.natAbs ∧ Ms wx L Bd md dd b ∧ w.heap.size + 3 ≤ wx.heap.size ∧ Below w.heap.size w wx)
  case first => as_aux_lemma =>
    go_region_with (first
      | (go_at_call 127; (fail_if_success (have hq := hd1)); (refine (turn_any _ bl A n c y hbl0 (HA0.out.below hd0)).mono ?_); rintro e v1 ⟨b1, A1, l1, c1, rfl, hs1, hA1, hx1⟩; have hd1 := chain hd0 hx1; have e2 := cell_later (j := 0) O2.out hd1; have e3 := cell_later (j := 1) O2.out hd1; simp at e2 e3)
      | (go_at_call 127; (refine (turn_any _ true B m d (-(b : Int)) HBS (HB0.out.below hd1)).mono ?_); rintro e v2 ⟨b2, A2, l2, c2, rfl, hs2, hA2, hx2⟩; have hd2 := chain hd1 hx2; have r0 := cell_later (j := 0) O1.out hd2; have r1 := cell_later (j := 1) O1.out hd2; have r2 := cell_later (j := 0) O2.out hd2; have r3 := cell_later (j := 1) O2.out hd2; have f0 := frozen_later O1.out hd2 0; have f1 := frozen_later O1.out hd2 1; have f2 := frozen_later O2.out hd2 0; have f3 := frozen_later O2.out hd2 1; simp at r0 r1 r2 r3))
    all_goals (
      obtain rfl : b2 = false := by rw [hs2.out]; simp
      rw [Int.neg_neg, Int.natAbs_natCast] at hA2
      rw [HY.out] at hs1 hA1
      have k1 := blk_later O1.out hd2
      have k2 := blk_later O2.out hd2
      have k3 := blk_later O3.out hd2
      have HN1 := Lib.hid ((hA1.below hx2).off k1 (by simp) (by simp))
      have HN2 := Lib.hid ((hA1.below hx2).off k2 (by simp) (by simp))
      have HM1 := Lib.hid (hA2.off k1 (by simp) (by simp))
      have HM2 := Lib.hid (hA2.off k2 (by simp) (by simp))
      have HA1 := Lib.hid (hA1.below hx2)
      have HA2 := Lib.hid hA2
      have HK := Lib.hid (And.intro k1 (And.intro k2 k3))
      have hw2 := chain hW hd2
      have hz2 := hd2.size
      rw [HSZ.out] at hz2
      clear hA1 hA2 k1 k2 k3
      go_wp2_with fail
      go_meet
      refine ⟨rfl, b1, A1, l1, c1, A2, l2, c2, ?_, ?_, ?_, hs1, ?_, ?_, ?_, ?_⟩
      · exact blk_far (blk_far (blk_store HK.out.1) (by omega)) (by omega)
      · exact blk_store (blk_far (blk_far HK.out.2.1 (by omega)) (by omega))
      · exact blk_far (blk_far (blk_far (blk_far HK.out.2.2 (by omega)) (by omega)) (by omega)) (by omega)
      · exact (((HA1.out.setCell HN1.out).setCell HN1.out).setCell HN2.out).setCell HN2.out
      · exact (((HA2.out.setCell HM1.out).setCell HM1.out).setCell HM2.out).setCell HM2.out
      · simp [World.setCell]; omega
      · exact (((hw2.setCell (Nat.le_refl _) _).setCell (Nat.le_refl _) _).setCell (by simp) _).setCell (by simp) _)
  case rest => as_aux_lemma =>
    clear z0 z1 z2 z3 hd0
    obtain ⟨rfl, bn, An, ln, cn, Bd, md, dd, k1, k2, k3, hbl, hAn, hBd, hwz, hW⟩ := hcut
    have O1 := Lib.hid k1
    have O2 := Lib.hid k2
    have O3 := Lib.hid k3
    have HA := Lib.hid hAn
    have HB := Lib.hid hBd
    clear k1 k2 k3 hAn hBd
    have z0 := cell_later (j := 0) O1.out (Below.refl _ _)
    have z1 := cell_later (j := 1) O1.out (Below.refl _ _)
    have z2 := cell_later (j := 0) O2.out (Below.refl _ _)
    have z3 := cell_later (j := 1) O2.out (Below.refl _ _)
    simp at z0 z1 z2 z3
    go_wp2_with fail
    refine (divisor_any _ bn An ln cn y'.natAbs HA.out false Bd md dd b HB.out hL).mono ?_
    rintro e w1 ⟨bg, Ag, lg, cg, rfl, hsg, hAg, hb1⟩
    obtain rfl : bg = false := by rw [hsg.out]; simp
    rw [HG.out] at hAg
    rw [Int.natAbs_natCast] at hAg
    have o1 := heap_last w1 (.cells #[.bool false, .slice Ag lg cg] 102)
    have hwa : Below w1.heap.size w1 (w1.alloc (.cells #[.bool false, .slice Ag lg cg] 102)) := (Below.refl _ _).alloc (Nat.le_refl _) _
    have OG := Lib.hid o1
    clear o1
    have hc1 := chain hb1 hwa
    have x0 := cell_later (j := 0) O1.out hc1
    have x1 := cell_later (j := 1) O1.out hc1
    simp at x0 x1
    have HGM := Lib.hid (hAg.below hwa)
    clear hAg
    go_wp2_with fail
    refine (pparts_any _ bn An ln cn y' hbl (HA.out.below hc1) false Ag lg cg (g : Int) (show false = _ by simp) (by rw [Int.natAbs_natCast]; exact HGM.out) hgz HYM.out hL).mono ?_
    rintro e w2 ⟨bx, Ax, lx, cx, bx', Ax', lx', cx', rfl, hsx, hAx, rfl, _, hb2⟩
    rw [HN.out] at hAx
    rw [HSG.out] at hsx
    have hc2 := chain hc1 hb2
    have x2 := cell_later (j := 0) O2.out hc2
    have x3 := cell_later (j := 1) O2.out hc2
    have z0 := cell_later (j := 0) OG.out hb2
    have z1 := cell_later (j := 1) OG.out hb2
    simp at x2 x3 z0 z1
    have hz2 := hc2.size
    have hz1 := hb2.size
    simp at hz1 hz2
    have hs1 : w.heap.size + 1 < w2.heap.size := by omega
    have hs2 : w.heap.size + 1 < w2.heap.size + 1 := by omega
    have hs3 : w1.heap.size < w2.heap.size := by omega
    have hs4 : w1.heap.size < w2.heap.size + 1 := by omega
    clear x0 x1
    have hwb : Below w2.heap.size w2 ((w2.alloc (.cells #[.bool bx, .slice Ax lx cx] 102)).alloc (.cells #[.bool false, .slice Ax' lx' cx'] 102)) := below_alloc2 _ _ _
    have hc3 := chain hc2 hwb
    have OXX := Lib.hid (heap_more (heap_last w2 (.cells #[.bool bx, .slice Ax lx cx] 102)) (.cells #[.bool false, .slice Ax' lx' cx'] 102))
    have HX := Lib.hid (hAx.below hwb)
    clear hAx
    go_wp2_with fail
    refine (pparts_any _ false Bd md dd (b : Int) (show false = _ by simp) (by rw [Int.natAbs_natCast]; exact HB.out.below hc3) false Ag lg cg (g : Int) (show false = _ by simp) (by rw [Int.natAbs_natCast]; exact (HGM.out.below hb2).below hwb) hgz (.inl (by omega)) hL).mono ?_
    rintro e w3 ⟨by_, Ay, ly, cy, by', Ay', ly', cy', rfl, hsy, hAy, rfl, _, hb3⟩
    have hbg : 0 ≤ (b : Int) / (g : Int) := Int.ediv_nonneg (by omega) (by omega)
    obtain rfl : by_ = false := by rw [hsy.out]; simp; omega
    rw [HDN.out] at hAy
    have hc4 := chain hc3 hb3
    have y0 := cell_later (j := 0) OXX.out hb3
    have y1 := cell_later (j := 1) OXX.out hb3
    simp at y0 y1
    have hz3 := hc4.size
    have hz4 := hb3.size
    simp at hz3 hz4
    have ht1 : w2.heap.size < w3.heap.size := by omega
    have ht2 : w2.heap.size < w3.heap.size + 1 := by omega
    have ht3 : w.heap.size + 1 + 1 < w3.heap.size := by omega
    have ht4 : w.heap.size + 1 + 1 < w3.heap.size + 1 := by omega
    have r0 := cell_later (j := 0) O3.out hc4
    have r1 := cell_later (j := 1) O3.out hc4
    have r2 := cell_later (j := 2) O3.out hc4
    have r3 := cell_later (j := 3) O3.out hc4
    have f0 := frozen_later O3.out hc4 0
    have f1 := frozen_later O3.out hc4 1
    have f2 := frozen_later O3.out hc4 2
    have f3 := frozen_later O3.out hc4 3
    simp at r0 r1 r2 r3
    have hwd : Below w3.heap.size w3 ((w3.alloc (.cells #[.bool false, .slice Ay ly cy] 102)).alloc (.cells #[.bool false, .slice Ay' ly' cy'] 102)) := below_alloc2 _ _ _
    have HXM := Lib.hid (HX.out.below hb3)
    have HYM := Lib.hid hAy
    have HXF := Lib.hid (HXM.out.offc (g := w.heap.size + 1 + 1) (blk_later O3.out hc4) (by intro j v h d e; subst e; rcases j with _ | _ | _ | _ | j <;> simp at h))
    have HYF := Lib.hid (HYM.out.offc (g := w.heap.size + 1 + 1) (blk_later O3.out hc4) (by intro j v h d e; subst e; rcases j with _ | _ | _ | _ | j <;> simp at h))
    have hW4 := chain hW hc4
    have hs9 := hW4.size
    clear x2 x3 z0 z1 hAy
    go_wp2
    refine bodyPost_ret (v := .agg #[.bool bx, .slice Ax lx cx, .bool false, .slice Ay ly cy]) (by simp [results, Tryz.results81, go_sem]; go_simp) rfl ⟨_, _, _, _, _, _, _, rfl, hsx, ?_, ?_, ?_⟩
    · exact ((((HXM.out.setCell HXF.out).setCell HXF.out).setCell HXF.out).setCell HXF.out).below (below_alloc2 _ _ _)
    · exact ((((HYM.out.setCell HYF.out).setCell HYF.out).setCell HYF.out).setCell HYF.out).below (below_alloc2 _ _ _)
    · repeat (first | with_reducible exact hW4 | (with_reducible refine Below.setCell ?_ (by first | omega | (simp <;> omega)) _) | (with_reducible refine Below.alloc ?_ (by first | omega | (simp <;> omega)) _))
end Go.Proofs.YtkajibniibjblaaGreatDoor.P4
