/-
  whole.Number: Sum.
-/
import Derived.Test.YtkajibniibjblaaGreatDoorNumber
import Derived.Deep.RegionLaw
namespace Go.Proofs.YtkajibniibjblaaGreatDoor
open Go.RowKit
set_option maxRecDepth 100000

theorem sum_same (w : World) {La Lb : Nat} (bl : Bool) (A : Option Addr) (n c : Nat) (y : Int) (hy : bl = decide (y < 0)) (ha : Ms w La A n c y.natAbs)
    (B : Option Addr) (m d : Nat) (z : Int) (hz : bl = decide (z < 0)) (hb : Ms w Lb B m d z.natAbs) (hL : max La Lb ≤ 1000000000000) :
    Calls Tryz.prog 156 #[.agg #[.bool bl, .slice A n c], .agg #[.bool bl, .slice B m d]] w (RetN w (max La Lb + 1) (y + z)) := by
  have HX : Hid (bl = decide (y + z < 0)) := by
    show _ = _
    cases bl
    · have h1 : ¬ y < 0 := by simpa using hy.symm
      have h2 : ¬ z < 0 := by simpa using hz.symm
      simp; omega
    · have h1 : y < 0 := by simpa using hy.symm
      have h2 : z < 0 := by simpa using hz.symm
      simp; omega
  have HA : Hid (y.natAbs + z.natAbs = (y + z).natAbs) := by
    show _ = _
    cases bl
    · have h1 : ¬ y < 0 := by simpa using hy.symm
      have h2 : ¬ z < 0 := by simpa using hz.symm
      omega
    · have h1 : y < 0 := by simpa using hy.symm
      have h2 : z < 0 := by simpa using hz.symm
      omega
  clear hy hz
  have hW : Below w.heap.size w (((w.alloc (.cells #[.bool bl, .slice A n c] 116)).alloc (.cells #[.bool bl, .slice B m d] 116)).alloc (.cells #[.bool false, .slice none 0 0] 116)) := ((below_alloc2 _ _ _).alloc (by simp; omega) _)
  have o1 := heap_more (heap_more (heap_last w (.cells #[.bool bl, .slice A n c] 116)) (.cells #[.bool bl, .slice B m d] 116)) (.cells #[.bool false, .slice none 0 0] 116)
  have o3 := heap_last ((w.alloc (.cells #[.bool bl, .slice A n c] 116)).alloc (.cells #[.bool bl, .slice B m d] 116)) (.cells #[.bool false, .slice none 0 0] 116)
  have hs2 : ((w.alloc (.cells #[.bool bl, .slice A n c] 116)).alloc (.cells #[.bool bl, .slice B m d] 116)).heap.size = w.heap.size + 1 + 1 := by simp
  rw [hs2] at o3
  have O1 := Lib.hid o1
  have O3 := Lib.hid o3
  clear o1 o3 hs2
  go_enter Tryz.func156, Tryz.ntmps156
  go_upto_region 2 with fail
  go_region_law (go_simp; go_at_call 173; refine (plus_any _ _ _ _ _ _ _ _ _ (ha.below hW.drew) (hb.below hW.drew) (by omega)).mono ?_; rintro e w1 ⟨Ap, lp, cp, rfl, hp, hb1', hfr⟩; have hb1 := undrew hb1'; have hfr2 : Hid (∀ ad, Ap = some ad → 0 < lp → ad.block ≠ w.heap.size + 1 + 1) := (fun ad e _ => by have := hfr ad e; simp at this; omega); have HFR : Hid (∀ ad, Ap = some ad → w.heap.size ≤ ad.block) := (fun ad e => Nat.le_trans hW.size (hfr ad e)); have c1 := cell_later (j := 0) O1.out hb1; have c3 := cell_later (j := 0) O3.out hb1; have c4 := cell_later (j := 1) O3.out hb1; have f3 := frozen_later O3.out hb1 0; have f4 := frozen_later O3.out hb1 1; simp at c1 c3 c4; clear hfr)
  all_goals (
    rename_i K1 hK1 K2 hK2
    refine hK2 _ _ ?_
    clear hK2 K2
    rw [HA.out] at hp
    go_wp2
    refine bodyPost_ret (v := .agg #[.bool bl, .slice Ap lp cp]) (by simp [results, Tryz.results156, go_sem, c3, c4]) rfl ⟨_, _, _, _, rfl, HX, (hp.setCell hfr2.out).setCell hfr2.out, ((chain_drew hW hb1').setCell (by simp; omega) _).setCell (by simp; omega) _, HFR⟩)

theorem sum_far (w : World) {La Lb : Nat} (bl bm : Bool) (hbl : bm = !bl) (A : Option Addr) (n c : Nat) (y : Int) (hy : bl = decide (y < 0)) (ha : Ms w La A n c y.natAbs)
    (B : Option Addr) (m d : Nat) (z : Int) (hz : bm = decide (z < 0)) (hb : Ms w Lb B m d z.natAbs) (hL : max La Lb ≤ 1000000000000) (hle : z.natAbs ≤ y.natAbs) :
    Calls Tryz.prog 156 #[.agg #[.bool bl, .slice A n c], .agg #[.bool bm, .slice B m d]] w (RetN w (max La Lb + 1) (y + z)) := by
  subst hbl
  have HF : Hid ((bl && decide ((y + z).natAbs ≠ 0)) = decide (y + z < 0)) := by
    show _ = _
    cases bl
    · have h1 : ¬ y < 0 := by simpa using hy.symm
      have h2 : z < 0 := by simpa using hz.symm
      simp; omega
    · have h1 : y < 0 := by simpa using hy.symm
      have h2 : ¬ z < 0 := by simpa using hz.symm
      rw [Bool.true_and, decide_eq_decide]
      omega
  have HA : Hid (y.natAbs - z.natAbs = (y + z).natAbs) := by
    show _ = _
    cases bl
    · have h1 : ¬ y < 0 := by simpa using hy.symm
      have h2 : z < 0 := by simpa using hz.symm
      omega
    · have h1 : y < 0 := by simpa using hy.symm
      have h2 : ¬ z < 0 := by simpa using hz.symm
      omega
  have HLE := Lib.hid hle
  clear hy hz hle
  have hW : Below w.heap.size w (((w.alloc (.cells #[.bool bl, .slice A n c] 116)).alloc (.cells #[.bool !bl, .slice B m d] 116)).alloc (.cells #[.bool false, .slice none 0 0] 116)) := ((below_alloc2 _ _ _).alloc (by simp; omega) _)
  have o1 := heap_more (heap_more (heap_last w (.cells #[.bool bl, .slice A n c] 116)) (.cells #[.bool !bl, .slice B m d] 116)) (.cells #[.bool false, .slice none 0 0] 116)
  have o2 := heap_more (heap_last (w.alloc (.cells #[.bool bl, .slice A n c] 116)) (.cells #[.bool !bl, .slice B m d] 116)) (.cells #[.bool false, .slice none 0 0] 116)
  have o3 := heap_last ((w.alloc (.cells #[.bool bl, .slice A n c] 116)).alloc (.cells #[.bool !bl, .slice B m d] 116)) (.cells #[.bool false, .slice none 0 0] 116)
  have hs1 : (w.alloc (.cells #[.bool bl, .slice A n c] 116)).heap.size = w.heap.size + 1 := by simp
  have hs2 : ((w.alloc (.cells #[.bool bl, .slice A n c] 116)).alloc (.cells #[.bool !bl, .slice B m d] 116)).heap.size = w.heap.size + 1 + 1 := by simp
  rw [hs1] at o2
  rw [hs2] at o3
  have O1 := Lib.hid o1
  have O2 := Lib.hid o2
  have O3 := Lib.hid o3
  clear o1 o2 o3 hs1 hs2
  go_enter Tryz.func156, Tryz.ntmps156
  go_upto_region 4 with (go_at_call 185; go_must (refine (cmp_any _ _ _ _ _ _ _ _ _ (ha.below hW) (hb.below hW)).mono ?_; rintro e w1 ⟨r, rfl, hr, hb1⟩; have hr0 : 0 ≤ r := (by have := hr.1; have := HLE.out; omega); clear hr))
  have hW1 : Below w.heap.size w w1 := chain hW hb1
  have e0 := cell_later (j := 0) O1.out hb1
  have e1 := cell_later (j := 1) O1.out hb1
  have e2 := cell_later (j := 1) O2.out hb1
  simp at e0 e1 e2
  go_upto_region 5 with (go_at_call 175; go_must (refine (minus_any _ _ _ _ _ _ _ _ _ (ha.below hW1) (hb.below hW1) HLE.out (by omega)).mono ?_; rintro e w2 ⟨Ap, lp, cp, rfl, hp, hb2, hfr⟩))
  have hW2 : Below w.heap.size w w2 := chain hW1 hb2
  have hfr2 : Hid (∀ ad, Ap = some ad → 0 < lp → ad.block ≠ w.heap.size + 1 + 1) := fun ad e _ => by
    have h1 := hfr ad e
    have h2 := hb1.size
    simp at h2; omega
  have HFR : Hid (∀ ad, Ap = some ad → w.heap.size ≤ ad.block) := fun ad e => Nat.le_trans hW1.size (hfr ad e)
  clear hfr
  have hb3 := chain hb1 hb2
  clear e0 e1 e2
  have c1 := cell_later (j := 0) O1.out hb3
  have c3 := cell_later (j := 0) O3.out hb3
  have c4 := cell_later (j := 1) O3.out hb3
  have f3 := frozen_later O3.out hb3 0
  have f4 := frozen_later O3.out hb3 1
  simp at c1 c3 c4
  have hlz := hp.len_zero
  rw [HA.out] at hp hlz
  have hbs : w.heap.size ≤ w2.heap.size := hW2.size
  have hv : decide ((y + z).natAbs ≠ 0) = decide (0 < lp) := by rw [decide_eq_decide]; omega
  have HX : Hid ((bl && decide (0 < lp)) = decide (y + z < 0)) := by
    show _ = _
    rw [← HF.out, hv]
  have hp := hp.mono (show La ≤ max La Lb + 1 by omega)
  have HP := Lib.hid hp
  clear hlz hp HF HA ha hb hv
  cases bl
  · have HX2 : Hid (false = decide (y + z < 0)) := by show _ = _; rw [← HX.out]; simp
    clear HX
    go_wp2
    refine bodyPost_ret (v := .agg #[.bool false, .slice Ap lp cp]) (by simp [results, Tryz.results156, go_sem, c3, c4]) rfl ⟨_, _, _, _, rfl, HX2, ?_, (hW2.setCell (by simp; omega) _).setCell (by simp; omega) _, HFR⟩
    exact (HP.out.setCell hfr2.out).setCell hfr2.out
  · by_cases h0 : 0 < lp
    · have HX2 : Hid (true = decide (y + z < 0)) := by show _ = _; rw [← HX.out]; simp [h0]
      clear HX
      go_wp2
      refine bodyPost_ret (v := .agg #[.bool true, .slice Ap lp cp]) (by simp [results, Tryz.results156, go_sem, c3, c4]) rfl ⟨_, _, _, _, rfl, HX2, ?_, (hW2.setCell (by simp; omega) _).setCell (by simp; omega) _, HFR⟩
      exact (HP.out.setCell hfr2.out).setCell hfr2.out
    · have HX2 : Hid (false = decide (y + z < 0)) := by show _ = _; rw [← HX.out]; simp [h0]
      clear HX
      go_wp2
      refine bodyPost_ret (v := .agg #[.bool false, .slice Ap lp cp]) (by simp [results, Tryz.results156, go_sem, c3, c4]) rfl ⟨_, _, _, _, rfl, HX2, ?_, (hW2.setCell (by simp; omega) _).setCell (by simp; omega) _, HFR⟩
      exact (HP.out.setCell hfr2.out).setCell hfr2.out

theorem sum_near (w : World) {La Lb : Nat} (bl bm : Bool) (hbl : bm = !bl) (A : Option Addr) (n c : Nat) (y : Int) (hy : bl = decide (y < 0)) (ha : Ms w La A n c y.natAbs)
    (B : Option Addr) (m d : Nat) (z : Int) (hz : bm = decide (z < 0)) (hb : Ms w Lb B m d z.natAbs) (hL : max La Lb ≤ 1000000000000) (hle : y.natAbs < z.natAbs) :
    Calls Tryz.prog 156 #[.agg #[.bool bl, .slice A n c], .agg #[.bool bm, .slice B m d]] w (RetN w (max La Lb + 1) (y + z)) := by
  subst hbl
  have HY := Lib.hid hy
  have HZ := Lib.hid hz
  have HLE := Lib.hid hle
  clear hy hz hle
  have hW : Below w.heap.size w (((w.alloc (.cells #[.bool bl, .slice A n c] 116)).alloc (.cells #[.bool !bl, .slice B m d] 116)).alloc (.cells #[.bool false, .slice none 0 0] 116)) := ((below_alloc2 _ _ _).alloc (by simp; omega) _)
  have o1 := heap_more (heap_more (heap_last w (.cells #[.bool bl, .slice A n c] 116)) (.cells #[.bool !bl, .slice B m d] 116)) (.cells #[.bool false, .slice none 0 0] 116)
  have o2 := heap_more (heap_last (w.alloc (.cells #[.bool bl, .slice A n c] 116)) (.cells #[.bool !bl, .slice B m d] 116)) (.cells #[.bool false, .slice none 0 0] 116)
  have o3 := heap_last ((w.alloc (.cells #[.bool bl, .slice A n c] 116)).alloc (.cells #[.bool !bl, .slice B m d] 116)) (.cells #[.bool false, .slice none 0 0] 116)
  have hs1 : (w.alloc (.cells #[.bool bl, .slice A n c] 116)).heap.size = w.heap.size + 1 := by simp
  have hs2 : ((w.alloc (.cells #[.bool bl, .slice A n c] 116)).alloc (.cells #[.bool !bl, .slice B m d] 116)).heap.size = w.heap.size + 1 + 1 := by simp
  rw [hs1] at o2
  rw [hs2] at o3
  have O1 := Lib.hid o1
  have O2 := Lib.hid o2
  have O3 := Lib.hid o3
  clear o1 o2 o3 hs1 hs2
  go_enter Tryz.func156, Tryz.ntmps156
  go_upto_region 6 with (go_at_call 185; go_must (refine (cmp_any _ _ _ _ _ _ _ _ _ (ha.below hW) (hb.below hW)).mono ?_; rintro e w1 ⟨r, rfl, hr, hb1⟩; have hr0 : ¬ 0 ≤ r := (by have := hr.1; have := HLE.out; omega); clear hr))
  have hW1 : Below w.heap.size w w1 := chain hW hb1
  have e0 := cell_later (j := 0) O1.out hb1
  have e1 := cell_later (j := 1) O1.out hb1
  have e2 := cell_later (j := 0) O2.out hb1
  have e3 := cell_later (j := 1) O2.out hb1
  simp at e0 e1 e2 e3
  go_wp2_with (go_at_call 156; go_must (refine (sum_far _ (!bl) bl (by simp) _ _ _ z HZ.out (hb.below hW1) _ _ _ y HY.out (ha.below hW1) (by omega) (Nat.le_of_lt HLE.out)).mono ?_; rintro e w2 ⟨bx, Ap, lp, cp, rfl, hbx, hp, hb2, hfr⟩; have hb3 := chain hb1 hb2; have c3 := cell_later (j := 0) O3.out hb3; have c4 := cell_later (j := 1) O3.out hb3; have f3 := frozen_later O3.out hb3 0; have f4 := frozen_later O3.out hb3 1; simp at c3 c4))
  have hW2 : Below w.heap.size w w2 := chain hW1 hb2
  have hbs : w.heap.size ≤ w2.heap.size := hW2.size
  have hfr2 : Hid (∀ ad, Ap = some ad → 0 < lp → ad.block ≠ w.heap.size + 1 + 1) := fun ad e _ => by
    have h1 := hfr.out ad e
    have h2 := hb1.size
    simp at h2; omega
  have HFR : Hid (∀ ad, Ap = some ad → w.heap.size ≤ ad.block) := fun ad e => Nat.le_trans hW1.size (hfr.out ad e)
  have hbx2 : Hid (bx = decide (y + z < 0)) := by show _ = _; rw [hbx.out, Int.add_comm]
  have hp2 : Ms w2 (max La Lb + 1) Ap lp cp (y + z).natAbs := by rw [Int.add_comm, Nat.max_comm]; exact hp
  refine bodyPost_ret (v := .agg #[.bool bx, .slice Ap lp cp]) (by simp [results, Tryz.results156, go_sem, c3, c4]) rfl ⟨_, _, _, _, rfl, hbx2, (hp2.setCell hfr2.out).setCell hfr2.out, (hW2.setCell (by simp; omega) _).setCell (by simp; omega) _, HFR⟩

theorem sum_any (w : World) {La Lb : Nat} (bl bm : Bool) (A : Option Addr) (n c : Nat) (y : Int) (hy : bl = decide (y < 0)) (ha : Ms w La A n c y.natAbs)
    (B : Option Addr) (m d : Nat) (z : Int) (hz : bm = decide (z < 0)) (hb : Ms w Lb B m d z.natAbs) (hL : max La Lb ≤ 1000000000000) :
    Calls Tryz.prog 156 #[.agg #[.bool bl, .slice A n c], .agg #[.bool bm, .slice B m d]] w (RetN w (max La Lb + 1) (y + z)) := by
  by_cases h : bl = bm
  · subst h
    exact sum_same w bl A n c y hy ha B m d z hz hb hL
  · have hbm : bm = !bl := by cases bl <;> cases bm <;> simp_all
    rcases Nat.lt_or_ge y.natAbs z.natAbs with h1 | h1
    · exact sum_near w bl bm hbm A n c y hy ha B m d z hz hb hL h1
    · exact sum_far w bl bm hbm A n c y hy ha B m d z hz hb hL h1

end Go.Proofs.YtkajibniibjblaaGreatDoor
