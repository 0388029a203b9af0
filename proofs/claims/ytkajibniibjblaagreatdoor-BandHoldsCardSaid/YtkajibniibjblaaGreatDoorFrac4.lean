/-
  frac: Times.
-/
import Derived.Test.YtkajibniibjblaaGreatDoorFrac3
namespace Go.Proofs.YtkajibniibjblaaGreatDoor
open Go.RowKit
set_option maxRecDepth 100000

theorem rat_mul (q r : Rat) : mkRat (q.num * r.num) (q.den * r.den) = q * r := by
  rw [Rat.mul_def, Rat.mkRat_def, dif_neg (Nat.mul_ne_zero q.den_nz r.den_nz)]

set_option maxHeartbeats 4000000 in
theorem timesq_any (w : World) {La Lb : Nat} (bl : Bool) (A : Option Addr) (n c : Nat) (B : Option Addr) (m d : Nat) (q : Rat) (hbl : Hid (bl = decide (q.num < 0))) (ha : Ms w La A n c q.num.natAbs) (hb : Ms w La B m d q.den)
    (bm : Bool) (A' : Option Addr) (n' c' : Nat) (B' : Option Addr) (m' d' : Nat) (r : Rat) (hbm : Hid (bm = decide (r.num < 0))) (ha' : Ms w Lb A' n' c' r.num.natAbs) (hb' : Ms w Lb B' m' d' r.den) (hL : La + Lb ≤ 10000000000) :
    Calls Tryz.prog 86 #[.agg #[.bool bl, .slice A n c, .slice B m d], .agg #[.bool bm, .slice A' n' c', .slice B' m' d']] w (RetQ w (La + Lb) (q * r)) := by
  have hq0 : 0 < q.den * r.den := Nat.mul_pos q.den_pos r.den_pos
  rw [← rat_mul]
  have hW : Below w.heap.size w (((w.alloc (.cells #[.bool bl, .slice A n c, .slice B m d] 118)).alloc (.cells #[.bool bm, .slice A' n' c', .slice B' m' d'] 118)).alloc (.cells #[.bool false, .slice none 0 0, .slice none 0 0] 118)) := ((((Below.refl w.heap.size w).alloc (Nat.le_refl _) _).alloc (by simp <;> omega) _).alloc (by simp <;> omega) _)
  have o1 := heap_more (heap_more (heap_last w (.cells #[.bool bl, .slice A n c, .slice B m d] 118)) (.cells #[.bool bm, .slice A' n' c', .slice B' m' d'] 118)) (.cells #[.bool false, .slice none 0 0, .slice none 0 0] 118)
  have O1 := Lib.hid o1
  clear o1
  have o2 := heap_more (heap_last (w.alloc (.cells #[.bool bl, .slice A n c, .slice B m d] 118)) (.cells #[.bool bm, .slice A' n' c', .slice B' m' d'] 118)) (.cells #[.bool false, .slice none 0 0, .slice none 0 0] 118)
  rw [show (w.alloc (.cells #[.bool bl, .slice A n c, .slice B m d] 118)).heap.size = w.heap.size + 1 by simp] at o2
  have O2 := Lib.hid o2
  clear o2
  have o3 := heap_last ((w.alloc (.cells #[.bool bl, .slice A n c, .slice B m d] 118)).alloc (.cells #[.bool bm, .slice A' n' c', .slice B' m' d'] 118)) (.cells #[.bool false, .slice none 0 0, .slice none 0 0] 118)
  rw [show ((w.alloc (.cells #[.bool bl, .slice A n c, .slice B m d] 118)).alloc (.cells #[.bool bm, .slice A' n' c', .slice B' m' d'] 118)).heap.size = w.heap.size + 1 + 1 by simp] at o3
  have O3 := Lib.hid o3
  clear o3
  have hsz : (((w.alloc (.cells #[.bool bl, .slice A n c, .slice B m d] 118)).alloc (.cells #[.bool bm, .slice A' n' c', .slice B' m' d'] 118)).alloc (.cells #[.bool false, .slice none 0 0, .slice none 0 0] 118)).heap.size = w.heap.size + 1 + 1 + 1 := by simp
  have HSZ := Lib.hid hsz
  clear hsz
  have ha1 := ha.below hW.drew
  have hb1 := hb.below hW
  have ha2 := ha'.below hW.drew
  have hb2 := hb'.below hW
  go_enter Tryz.func86, Tryz.ntmps86
  go_wp2_with fail
  go_region_law (first
    | (go_simp; go_at_call 134; refine (product_any _ _ _ _ _ _ hbl.out ha1 _ _ _ _ _ hbm.out ha2 (by omega)).mono ?_; rintro e wP ⟨bP, AP, lP, cP, rfl, hbP, hP, hbeP, hfP⟩; have hcP := undrewS hbeP; have x1 := cell_later (j := 2) O1.out hcP; have x2 := cell_later (j := 2) O2.out hcP; simp at x1 x2)
    | (go_simp; go_at_call 135; refine (times_any _ _ _ _ _ _ _ _ _ (hb1.below hcP) (hb2.below hcP) (by omega)).mono ?_; rintro e wT ⟨AT, lT, cT, rfl, hT, hbT, hfT⟩)
    | (go_simp; go_at_call 133; refine (lowest_any _ _ _ _ _ _ hbP.out (hP.below hbT) _ _ _ _ hT hq0 (by omega)).mono ?_; rintro e wL ⟨bL, AL, lL, cL, BL, mL, dL, rfl, hbL, hL1, hL2, hbeL, hfL1, hfL2⟩; unfold rv; have HB := chain (chain hcP hbT) hbeL; have y1 := cell_later (j := 0) O3.out HB; have y2 := cell_later (j := 1) O3.out HB; have y3 := cell_later (j := 2) O3.out HB; have g1 := frozen_later O3.out HB 0; have g2 := frozen_later O3.out HB 1; have g3 := frozen_later O3.out HB 2; simp at y1 y2 y3))
  all_goals (
    have hW3 := chain hW HB
    have hbs := hW3.size
    have HA := Lib.hid hL1
    have HBB := Lib.hid hL2
    have HF1 : Hid (∀ ad, AL = some ad → w.heap.size + 3 ≤ ad.block) := fun ad e => by have h1 := hfL1.out ad e; have h2 := HSZ.out; have h3 := (chain hcP hbT).size; omega
    have HF2 : Hid (∀ ad, BL = some ad → w.heap.size + 3 ≤ ad.block) := fun ad e => by have h1 := hfL2.out ad e; have h2 := HSZ.out; have h3 := (chain hcP hbT).size; omega
    clear hL1 hL2 hfL1 hfL2
    go_wp2_with fail
    refine bodyPost_ret (v := rv bL AL lL cL BL mL dL) (by simp [rv, results, Tryz.results86, go_sem, y1, y2, y3]) rfl ⟨_, _, _, _, _, _, _, rfl, hbL, ?_, ?_, ((hW3.setCell (by simp <;> omega) _).setCell (by simp <;> omega) _).setCell (by simp <;> omega) _, Lib.hid (fun ad e => by have h1 := HF1.out ad e; omega), Lib.hid (fun ad e => by have h1 := HF2.out ad e; omega)⟩
    · have h : ∀ ad, AL = some ad → 0 < lL → ad.block ≠ w.heap.size + 1 + 1 := fun ad e _ => by have h1 := HF1.out ad e; omega
      exact ((HA.out.setCell h).setCell h).setCell h
    · have h : ∀ ad, BL = some ad → 0 < mL → ad.block ≠ w.heap.size + 1 + 1 := fun ad e _ => by have h1 := HF2.out ad e; omega
      exact ((HBB.out.setCell h).setCell h).setCell h)

end Go.Proofs.YtkajibniibjblaaGreatDoor
