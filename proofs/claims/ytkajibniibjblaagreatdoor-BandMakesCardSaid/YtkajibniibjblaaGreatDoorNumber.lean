/-
  whole.Number: Side, Turned, Product, Sum, Parts.
-/
import Derived.Test.YtkajibniibjblaaGreatDoorCommon
import Derived.BigQuiet
import Derived.BigGuardPart
import Derived.Outline
import Derived.Lib.Walk
import Derived.Deep.DeepCutAuto
namespace Go.Proofs.YtkajibniibjblaaGreatDoor
open Go.RowKit
set_option maxRecDepth 100000

/-- A call returned a Number that is z. -/
def RetN (w : World) (L : Nat) (z : Int) : Ending → World → Prop := fun e w' =>
  ∃ bl A l c, e = .returned (.agg #[.bool bl, .slice A l c]) ∧ Hid (bl = decide (z < 0)) ∧ Ms w' L A l c z.natAbs ∧ Below w.heap.size w w' ∧ Hid (∀ ad, A = some ad → w.heap.size ≤ ad.block)

theorem Ms.len_zero {w : World} {L : Nat} {A : Option Addr} {n c a : Nat} (h : Ms w L A n c a) : n = 0 ↔ a = 0 := by
  obtain ⟨_, xs, hx, nx⟩ := h
  rw [nx.zero_iff, ← hx.len]
  exact List.length_eq_zero_iff

theorem side_any (w : World) {L : Nat} (bl : Bool) (A : Option Addr) (n c : Nat) (z : Int) (hz : bl = decide (z < 0)) (ha : Ms w L A n c z.natAbs) :
    Calls Tryz.prog 147 #[.agg #[.bool bl, .slice A n c]] w fun e w' => e = .returned (.int .i64 z.sign) ∧ Below w.heap.size w w' := by
  have hb0 : Below w.heap.size w (w.alloc (.cells #[.bool bl, .slice A n c] 116)) := (Below.refl _ _).alloc (Nat.le_refl _) _
  have hn := ha.len_zero
  rcases Int.lt_trichotomy z 0 with h | h | h
  · have hs : Hid (z.sign = -1) := Int.sign_eq_neg_one_of_neg h
    obtain rfl : bl = true := by rw [hz]; simp [h]
    clear hz hn
    go_enter Tryz.func147, Tryz.ntmps147
    go_wp2
    go_ret
    exact ⟨by rw [hs.out]; rfl, hb0⟩
  · subst h
    obtain rfl : bl = false := by rw [hz]; simp
    obtain rfl : n = 0 := hn.2 rfl
    clear hz hn
    go_enter Tryz.func147, Tryz.ntmps147
    go_wp2
    go_ret
    exact ⟨rfl, hb0⟩
  · have hs : Hid (z.sign = 1) := Int.sign_eq_one_of_pos h
    obtain rfl : bl = false := by rw [hz]; simp; omega
    have hn0 : 0 < n := by
      refine Nat.pos_of_ne_zero fun e => ?_
      have := hn.1 e
      omega
    clear hz hn
    go_enter Tryz.func147, Tryz.ntmps147
    go_wp2
    go_ret
    exact ⟨by rw [hs.out]; rfl, hb0⟩

theorem below_alloc2 (w : World) (o1 o2 : Obj) : Below w.heap.size w ((w.alloc o1).alloc o2) := ((Below.refl _ _).alloc (Nat.le_refl _) _).alloc (by simp) _

theorem turned_any (w : World) {L : Nat} (bl : Bool) (A : Option Addr) (n c : Nat) (z : Int) (hz : bl = decide (z < 0)) (ha : Ms w L A n c z.natAbs) :
    Calls Tryz.prog 155 #[.agg #[.bool bl, .slice A n c]] w fun e w' => e = .returned (.agg #[.bool (decide (-z < 0)), .slice A n c]) ∧ Below w.heap.size w w' := by
  have hn := ha.len_zero
  rcases Int.lt_trichotomy z 0 with h | h | h
  · have HF : Hid (decide (-z < 0) = false) := by show _ = _; simp; omega
    obtain rfl : bl = true := by rw [hz]; simp [h]
    clear hz hn h
    rw [HF.out]
    go_enter Tryz.func155, Tryz.ntmps155
    go_wp2
    refine bodyPost_ret (v := .agg #[.bool false, .slice A n c]) (by simp [results, Tryz.results155, go_sem]) rfl ⟨rfl, below_alloc2 _ _ _⟩
  · subst h
    obtain rfl : n = 0 := hn.2 rfl
    obtain rfl : bl = false := by rw [hz]; simp
    have HF : Hid (decide (-(0:Int) < 0) = false) := by show _ = _; simp
    clear hz hn ha
    rw [HF.out]
    go_enter Tryz.func155, Tryz.ntmps155
    go_wp2
    refine bodyPost_ret (v := .agg #[.bool false, .slice A 0 c]) (by simp [results, Tryz.results155, go_sem]) rfl ⟨rfl, below_alloc2 _ _ _⟩
  · have HF : Hid (decide (-z < 0) = true) := by show _ = _; simp; omega
    obtain rfl : bl = false := by rw [hz]; simp; omega
    have hn0 : 0 < n := by
      refine Nat.pos_of_ne_zero fun e => ?_
      have := hn.1 e
      omega
    clear hz hn h ha
    rw [HF.out]
    go_enter Tryz.func155, Tryz.ntmps155
    go_wp2
    refine bodyPost_ret (v := .agg #[.bool true, .slice A n c]) (by simp [results, Tryz.results155, go_sem]) rfl ⟨rfl, below_alloc2 _ _ _⟩

theorem sign_mul (y z : Int) (h : (y * z).natAbs ≠ 0) : (decide (y < 0) != decide (z < 0)) = decide (y * z < 0) := by
  have hy : y ≠ 0 := by rintro rfl; simp at h
  have hz : z ≠ 0 := by rintro rfl; simp at h
  rcases Int.lt_or_gt_of_ne hy with h1 | h1 <;> rcases Int.lt_or_gt_of_ne hz with h2 | h2
  · have := Int.mul_pos_of_neg_of_neg h1 h2
    simp [h1, h2]; omega
  · have := Int.mul_neg_of_neg_of_pos h1 h2
    have h3 : ¬ z < 0 := by omega
    simp [h1, h3, this]
  · have := Int.mul_neg_of_pos_of_neg h1 h2
    have h3 : ¬ y < 0 := by omega
    simp [h2, h3, this]
  · have := Int.mul_pos h1 h2
    have h3 : ¬ y < 0 := by omega
    have h4 : ¬ z < 0 := by omega
    simp [h3, h4]; omega

theorem product_any (w : World) {La Lb : Nat} (bl : Bool) (A : Option Addr) (n c : Nat) (y : Int) (hy : bl = decide (y < 0)) (ha : Ms w La A n c y.natAbs)
    (bm : Bool) (B : Option Addr) (m d : Nat) (z : Int) (hz : bm = decide (z < 0)) (hb : Ms w Lb B m d z.natAbs) (hL : La + Lb ≤ 1000000000000) :
    Calls Tryz.prog 134 #[.agg #[.bool bl, .slice A n c], .agg #[.bool bm, .slice B m d]] w (RetN w (La + Lb) (y * z)) := by
  have HY := Lib.hid hy
  have HZ := Lib.hid hz
  have HA : Hid (y.natAbs * z.natAbs = (y * z).natAbs) := (Int.natAbs_mul y z).symm
  clear hy hz
  have hW : Below w.heap.size w (((w.alloc (.cells #[.bool bl, .slice A n c] 116)).alloc (.cells #[.bool bm, .slice B m d] 116)).alloc (.cells #[.bool false, .slice none 0 0] 116)) := ((below_alloc2 _ _ _).alloc (by simp; omega) _)
  have o1 := heap_more (heap_more (heap_last w (.cells #[.bool bl, .slice A n c] 116)) (.cells #[.bool bm, .slice B m d] 116)) (.cells #[.bool false, .slice none 0 0] 116)
  have o2 := heap_more (heap_last (w.alloc (.cells #[.bool bl, .slice A n c] 116)) (.cells #[.bool bm, .slice B m d] 116)) (.cells #[.bool false, .slice none 0 0] 116)
  have o3 := heap_last ((w.alloc (.cells #[.bool bl, .slice A n c] 116)).alloc (.cells #[.bool bm, .slice B m d] 116)) (.cells #[.bool false, .slice none 0 0] 116)
  have hs1 : (w.alloc (.cells #[.bool bl, .slice A n c] 116)).heap.size = w.heap.size + 1 := by simp
  have hs2 : ((w.alloc (.cells #[.bool bl, .slice A n c] 116)).alloc (.cells #[.bool bm, .slice B m d] 116)).heap.size = w.heap.size + 1 + 1 := by simp
  rw [hs1] at o2
  rw [hs2] at o3
  have O1 := Lib.hid o1
  have O2 := Lib.hid o2
  have O3 := Lib.hid o3
  clear o1 o2 o3 hs1 hs2
  go_enter Tryz.func134, Tryz.ntmps134
  go_upto_region 2 with (go_at_call 135; go_must (refine (times_any _ _ _ _ _ _ _ _ _ (ha.below hW) (hb.below hW) (by omega)).mono ?_; rintro e w1 ⟨Ap, lp, cp, rfl, hp, hb1, hfr⟩))
  have hfr2 : Hid (∀ ad, Ap = some ad → 0 < lp → ad.block ≠ w.heap.size + 1 + 1) := fun ad e _ => by have := hfr ad e; simp at this; omega
  have HFR : Hid (∀ ad, Ap = some ad → w.heap.size ≤ ad.block) := fun ad e => Nat.le_trans hW.size (hfr ad e)
  clear hfr
  have c1 := cell_later (j := 0) O1.out hb1
  have c2 := cell_later (j := 0) O2.out hb1
  have c3 := cell_later (j := 0) O3.out hb1
  have c4 := cell_later (j := 1) O3.out hb1
  have f3 := frozen_later O3.out hb1 0
  have f4 := frozen_later O3.out hb1 1
  simp at c1 c2 c3 c4
  have hlz := hp.len_zero
  rw [HA.out] at hp hlz
  have hW1 : Below w.heap.size w w1 := chain hW hb1
  have hbs : w.heap.size ≤ w1.heap.size := hW1.size
  have HX : Hid ((bl != bm && decide (0 < lp)) = decide (y * z < 0)) := by
    show _ = _
    by_cases h0 : 0 < lp
    · have h1 := sign_mul y z (fun e => by have := hlz.2 e; omega)
      rw [HY.out, HZ.out, h1]; simp [h0]
    · have h1 : (y * z).natAbs = 0 := hlz.1 (by omega)
      have h2 : y * z = 0 := Int.natAbs_eq_zero.1 h1
      simp [h0, h2]
  have HP := Lib.hid hp
  clear hlz hp HY HZ HA ha hb
  by_cases hx : bl = bm
  · subst hx
    have HX2 : Hid (false = decide (y * z < 0)) := by show _ = _; rw [← HX.out]; simp
    clear HX
    go_wp2
    refine bodyPost_ret (v := .agg #[.bool false, .slice Ap lp cp]) (by simp [results, Tryz.results134, go_sem, c3, c4]) rfl ⟨_, _, _, _, rfl, HX2, ?_, (hW1.setCell (by simp; omega) _).setCell (by simp; omega) _, HFR⟩
    exact (HP.out.setCell hfr2.out).setCell hfr2.out
  · obtain rfl : bm = !bl := by cases bl <;> cases bm <;> simp_all
    by_cases h0 : 0 < lp
    · have HX2 : Hid (true = decide (y * z < 0)) := by show _ = _; rw [← HX.out]; simp [h0]
      clear HX
      go_wp2
      refine bodyPost_ret (v := .agg #[.bool true, .slice Ap lp cp]) (by simp [results, Tryz.results134, go_sem, c3, c4]) rfl ⟨_, _, _, _, rfl, HX2, ?_, (hW1.setCell (by simp; omega) _).setCell (by simp; omega) _, HFR⟩
      exact (HP.out.setCell hfr2.out).setCell hfr2.out
    · have HX2 : Hid (false = decide (y * z < 0)) := by show _ = _; rw [← HX.out]; simp [h0]
      clear HX
      go_wp2
      refine bodyPost_ret (v := .agg #[.bool false, .slice Ap lp cp]) (by simp [results, Tryz.results134, go_sem, c3, c4]) rfl ⟨_, _, _, _, rfl, HX2, ?_, (hW1.setCell (by simp; omega) _).setCell (by simp; omega) _, HFR⟩
      exact (HP.out.setCell hfr2.out).setCell hfr2.out

end Go.Proofs.YtkajibniibjblaaGreatDoor
