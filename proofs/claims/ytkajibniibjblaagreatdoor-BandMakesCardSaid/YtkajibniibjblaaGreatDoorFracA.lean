/-
  frac: Plus.
  frac: Minus, Order, Over.
  frac: Down.
  frac: Check at a valid fraction.
-/
import Derived.Test.YtkajibniibjblaaGreatDoorFracs
import Derived.Test.YtkajibniibjblaaGreatDoorBandB
import Derived.Deep.RegionHeld3
import Derived.Deep.DeepCutAuto
import Derived.Laws.Strings
namespace Go.Proofs.YtkajibniibjblaaGreatDoor
open Go.RowKit
set_option maxRecDepth 100000

/-- All old cells but those of block R are as they were. -/
def SameBut (R : Nat) (w1 w2 : World) : Prop := ∀ p : Addr, p.block ≠ R → p.block < w1.heap.size → w2.cell? p = w1.cell? p
theorem SameBut.of {R : Nat} {w1 w2 : World} (hb : Below w1.heap.size w1 w2) : SameBut R w1 w2 := fun _ _ h => hb.cell h
theorem SameBut.set {R : Nat} {w1 w2 : World} (h : SameBut R w1 w2) (j : Nat) (u : Value) : SameBut R w1 (w2.setCell ⟨R, j, none⟩ u) := fun p hp hl =>
  (World.cell?_setCell_other w2 ⟨R, j, none⟩ p u (fun e => hp (by rw [← e]))).trans (h p hp hl)

/-- A number in a new block of two cells. -/
def MadeN (Bd : Nat) (W : World) (p : Value) (L : Nat) (z : Int) (wx : World) : Prop := ∃ g b A l c, p = .pointer (some ⟨g, 0, none⟩) ∧ Bd ≤ g ∧ g < wx.heap.size ∧ wx.cell? ⟨g, 0, none⟩ = some (.bool b) ∧ wx.cell? ⟨g, 1, none⟩ = some (.slice A l c) ∧ Hid (b = decide (z < 0)) ∧ Ms wx L A l c z.natAbs ∧ Below W.heap.size W wx
theorem madeN_last {W w3 : World} {b : Bool} {A : Option Addr} {l c L : Nat} {z : Int} {T : TypeId} (h : Below W.heap.size W w3) (hb : Hid (b = decide (z < 0))) (hm : Ms w3 L A l c z.natAbs) :
    MadeN W.heap.size W (.pointer (some ⟨w3.heap.size, 0, none⟩)) L z (w3.alloc (.cells #[.bool b, .slice A l c] T)) :=
  ⟨_, _, _, _, _, rfl, h.size, by simp, by simp [World.cell?_alloc_new], by simp [World.cell?_alloc_new], hb, hm.below ((Below.refl _ _).alloc (Nat.le_refl _) _), h.alloc h.size _⟩
theorem madeN_set {W w3 : World} {g : Nat} {b : Bool} {A : Option Addr} {l c L : Nat} {z : Int} {u0 u1 : Value} (hg : W.heap.size ≤ g) (h0 : w3.cell? ⟨g, 0, none⟩ = some u0) (h1 : w3.cell? ⟨g, 1, none⟩ = some u1) (h : Below W.heap.size W w3) (hb : Hid (b = decide (z < 0))) (hm : Ms w3 L A l c z.natAbs)
    (hne : ∀ ad, A = some ad → 0 < l → ad.block ≠ g) :
    MadeN W.heap.size W (.pointer (some ⟨g, 0, none⟩)) L z ((w3.setCell ⟨g, 0, none⟩ (.bool b)).setCell ⟨g, 1, none⟩ (.slice A l c)) :=
  ⟨_, _, _, _, _, rfl, hg, by have := World.block_lt_of_cell? _ _ h0; simpa [World.setCell] using this, (World.cell?_setCell_other _ _ _ _ (by simp)).trans (World.cell?_setCell_same _ _ _ h0), World.cell?_setCell_same _ _ _ ((World.cell?_setCell_other _ _ _ _ (by simp)).trans h1), hb, (hm.setCell hne).setCell hne, (h.setCell hg _).setCell hg _⟩

set_option maxHeartbeats 4000000 in
theorem plusq_core (w : World) {La Lb : Nat} (bl : Bool) (A : Option Addr) (n c : Nat) (B : Option Addr) (m d : Nat) (y : Int) (b : Nat) (hbl : Hid (bl = decide (y < 0))) (ha : Ms w La A n c y.natAbs) (hb : Ms w La B m d b)
    (bm : Bool) (A' : Option Addr) (n' c' : Nat) (B' : Option Addr) (m' d' : Nat) (z : Int) (e : Nat) (hbm : Hid (bm = decide (z < 0))) (ha' : Ms w Lb A' n' c' z.natAbs) (hb' : Ms w Lb B' m' d' e) (hb0 : 0 < b * e) (hL : La + Lb + 1 ≤ 10000000000) :
    Calls Tryz.prog 105 #[.agg #[.bool bl, .slice A n c, .slice B m d], .agg #[.bool bm, .slice A' n' c', .slice B' m' d']] w (RetQ w (La + Lb + 1) (mkRat (y * e + z * b) (b * e))) := by
  have hW : Below w.heap.size w (((w.alloc (.cells #[.bool bl, .slice A n c, .slice B m d] 118)).alloc (.cells #[.bool bm, .slice A' n' c', .slice B' m' d'] 118)).alloc (.cells #[.bool false, .slice none 0 0, .slice none 0 0] 118)) := ((((Below.refl w.heap.size w).alloc (Nat.le_refl _) _).alloc (by simp <;> omega) _).alloc (by simp <;> omega) _)
  have o1 := heap_more (heap_more (heap_last w (.cells #[.bool bl, .slice A n c, .slice B m d] 118)) (.cells #[.bool bm, .slice A' n' c', .slice B' m' d'] 118)) (.cells #[.bool false, .slice none 0 0, .slice none 0 0] 118)
  have O1 := Lib.hid o1
  clear o1
  have o2 := heap_more (heap_last (w.alloc (.cells #[.bool bl, .slice A n c, .slice B m d] 118)) (.cells #[.bool bm, .slice A' n' c', .slice B' m' d'] 118)) (.cells #[.bool false, .slice none 0 0, .slice none 0 0] 118)
  rw [show (w.alloc (.cells #[.bool bl, .slice A n c, .slice B m d] 118)).heap.size = w.heap.size + 1 by simp] at o2
  have O2 := Lib.hid o2
  clear o2
  have o3 := heap_last ((w.alloc (.cells #[.bool bl, .slice A n c, .slice B m d] 118)).alloc (.cells #[.bool bm, .slice A' n' c', .slice B' m' d'] 118)) (.cells #[.bool false, .slice none 0 0, .slice none 0 0] 118)
  rw [show ((w.alloc (.cells #[.bool bl, .slice A n c, .slice B m d] 118)).alloc (.cells #[.bool bm, .slice A' n' c', .slice B' m' d'] 118)).heap.size = w.heap.size + 1 + 1 by simp] at o3
  have O3 := Lib.hid o3
  clear o3
  have hsz : (((w.alloc (.cells #[.bool bl, .slice A n c, .slice B m d] 118)).alloc (.cells #[.bool bm, .slice A' n' c', .slice B' m' d'] 118)).alloc (.cells #[.bool false, .slice none 0 0, .slice none 0 0] 118)).heap.size = w.heap.size + 1 + 1 + 1 := by simp
  have HSZ := Lib.hid hsz
  clear hsz
  have ha1 := ha.below hW.drew
  have hb1' := hb.below hW
  have ha2 := ha'.below hW
  have hb2' := hb'.below hW
  have HS : Hid (∀ w', Below (w.heap.size + 1 + 1) (((w.alloc (.cells #[.bool bl, .slice A n c, .slice B m d] 118)).alloc (.cells #[.bool bm, .slice A' n' c', .slice B' m' d'] 118)).alloc (.cells #[.bool false, .slice none 0 0, .slice none 0 0] 118)) w' → w'.cell? ⟨w.heap.size, 0, none⟩ = some (.bool bl) ∧ w'.cell? ⟨w.heap.size, 1, none⟩ = some (.slice A n c) ∧ w'.cell? ⟨w.heap.size + 1, 2, none⟩ = some (.slice B' m' d')) := fun w' h => ⟨cell_at O1.out (by omega) h, cell_at O1.out (by omega) h, cell_at O2.out (by omega) h⟩
  have hc0 : Below (((w.alloc (.cells #[.bool bl, .slice A n c, .slice B m d] 118)).alloc (.cells #[.bool bm, .slice A' n' c', .slice B' m' d'] 118)).alloc (.cells #[.bool false, .slice none 0 0, .slice none 0 0] 118)).heap.size (((w.alloc (.cells #[.bool bl, .slice A n c, .slice B m d] 118)).alloc (.cells #[.bool bm, .slice A' n' c', .slice B' m' d'] 118)).alloc (.cells #[.bool false, .slice none 0 0, .slice none 0 0] 118)) (((w.alloc (.cells #[.bool bl, .slice A n c, .slice B m d] 118)).alloc (.cells #[.bool bm, .slice A' n' c', .slice B' m' d'] 118)).alloc (.cells #[.bool false, .slice none 0 0, .slice none 0 0] 118)).drew := (Below.refl _ _).drew
  have hle : w.heap.size + 1 + 1 ≤ (((w.alloc (.cells #[.bool bl, .slice A n c, .slice B m d] 118)).alloc (.cells #[.bool bm, .slice A' n' c', .slice B' m' d'] 118)).alloc (.cells #[.bool false, .slice none 0 0, .slice none 0 0] 118)).heap.size := by simp
  have hm0 := hc0.mono hle
  have hc0a : Below (((w.alloc (.cells #[.bool bl, .slice A n c, .slice B m d] 118)).alloc (.cells #[.bool bm, .slice A' n' c', .slice B' m' d'] 118)).alloc (.cells #[.bool false, .slice none 0 0, .slice none 0 0] 118)).heap.size (((w.alloc (.cells #[.bool bl, .slice A n c, .slice B m d] 118)).alloc (.cells #[.bool bm, .slice A' n' c', .slice B' m' d'] 118)).alloc (.cells #[.bool false, .slice none 0 0, .slice none 0 0] 118)) ((((w.alloc (.cells #[.bool bl, .slice A n c, .slice B m d] 118)).alloc (.cells #[.bool bm, .slice A' n' c', .slice B' m' d'] 118)).alloc (.cells #[.bool false, .slice none 0 0, .slice none 0 0] 118)).alloc (.cells #[.bool false, .slice none 0 0] 116)).drew := ((Below.refl _ _).alloc (Nat.le_refl _) _).drew
  have hm0a := hc0a.mono hle
  go_enter Tryz.func105, Tryz.ntmps105
  go_upto_region 1 with fail
  go_cut [5] (fun p5 wx => MadeN (((w.alloc (.cells #[.bool bl, .slice A n c, .slice B m d] 118)).alloc (.cells #[.bool bm, .slice A' n' c', .slice B' m' d'] 118)).alloc (.cells #[.bool false, .slice none 0 0, .slice none 0 0] 118)).heap.size (((w.alloc (.cells #[.bool bl, .slice A n c, .slice B m d] 118)).alloc (.cells #[.bool bm, .slice A' n' c', .slice B' m' d'] 118)).alloc (.cells #[.bool false, .slice none 0 0, .slice none 0 0] 118)) p5 (La + Lb) (y * e) wx)
  case first =>
    go_region_held3 (fun w' => w'.cell? ⟨w.heap.size, 0, none⟩ = some (.bool bl) ∧ w'.cell? ⟨w.heap.size, 1, none⟩ = some (.slice A n c) ∧ w'.cell? ⟨w.heap.size + 1, 2, none⟩ = some (.slice B' m' d'))
      (first | with_reducible exact HS.out _ hm0 | with_reducible exact HS.out _ hm1 | with_reducible exact HS.out _ hm2 | with_reducible exact HS.out _ (hm1.alloc (Nat.le_trans hle hc1.size) _) | with_reducible exact HS.out _ (hm2.alloc (Nat.le_trans hle hc2.size) _) | with_reducible exact HS.out _ hm0a | with_reducible exact HS.out _ ((hm2.setCell (Nat.le_trans hle hc1.size) _).setCell (Nat.le_trans hle hc1.size) _) | exact HS.out _ ((hm2.setCell (by simp) _).setCell (by simp) _))
      (first
        | (go_at_call 138; (refine (positive_any _ _ _ _).mono ?_); rintro e w1 ⟨rfl, hb1⟩; have hs1 := hb1.size; simp at hs1; have hc1 : Below (((w.alloc (.cells #[.bool bl, .slice A n c, .slice B m d] 118)).alloc (.cells #[.bool bm, .slice A' n' c', .slice B' m' d'] 118)).alloc (.cells #[.bool false, .slice none 0 0, .slice none 0 0] 118)).heap.size (((w.alloc (.cells #[.bool bl, .slice A n c, .slice B m d] 118)).alloc (.cells #[.bool bm, .slice A' n' c', .slice B' m' d'] 118)).alloc (.cells #[.bool false, .slice none 0 0, .slice none 0 0] 118)) w1 := (by first | with_reducible exact chain hc0a hb1 | with_reducible exact chain hc0 hb1 | with_reducible exact chain (hc0.alloc hc0.size _) hb1); have hm1 := hc1.mono hle; (try (with_reducible have ga0 := cell_later (j := 0) (heap_last _ _) hb1; with_reducible have ga1 := cell_later (j := 1) (heap_last _ _) hb1; with_reducible have gf0 := frozen_later (heap_last _ _) hb1 0; with_reducible have gf1 := frozen_later (heap_last _ _) hb1 1; simp at ga0 ga1; (try simp at gf0 gf1))); (try (with_reducible have ga0 := cell_later (j := 0) (heap_lastD _ _) hb1; with_reducible have ga1 := cell_later (j := 1) (heap_lastD _ _) hb1; with_reducible have gf0 := frozen_later (heap_lastD _ _) hb1 0; with_reducible have gf1 := frozen_later (heap_lastD _ _) hb1 1; simp at ga0 ga1; (try simp at gf0 gf1))); (try (with_reducible have gf0 := (hb1.frozen (World.block_lt_of_cell? _ _ ga0)).trans gf0; with_reducible have gf1 := (hb1.frozen (World.block_lt_of_cell? _ _ ga1)).trans gf1; with_reducible have ga0 := (hb1.cell (World.block_lt_of_cell? _ _ ga0)).trans ga0; with_reducible have ga1 := (hb1.cell (World.block_lt_of_cell? _ _ ga1)).trans ga1)))
        | (go_at_call 134; (refine (product_any (La := La) (Lb := Lb) _ _ _ _ _ y hbl.out ?hp1 _ _ _ _ (e : Int) (gcd_side rfl) ?hp2 (by omega)).mono ?_); (case hp1 => exact ha.below (chain hW (by first | exact hc1 | exact hc1.alloc hc1.size _))); (case hp2 => rw [Int.natAbs_natCast]; exact hb'.below (chain hW (by first | exact hc1 | exact hc1.alloc hc1.size _))); rintro e w2 ⟨bP, AP, lP, cP, rfl, hbP, hP, hb2, hfP⟩; have hc2 : Below (((w.alloc (.cells #[.bool bl, .slice A n c, .slice B m d] 118)).alloc (.cells #[.bool bm, .slice A' n' c', .slice B' m' d'] 118)).alloc (.cells #[.bool false, .slice none 0 0, .slice none 0 0] 118)).heap.size (((w.alloc (.cells #[.bool bl, .slice A n c, .slice B m d] 118)).alloc (.cells #[.bool bm, .slice A' n' c', .slice B' m' d'] 118)).alloc (.cells #[.bool false, .slice none 0 0, .slice none 0 0] 118)) w2 := (by first | with_reducible exact chain hc0a hb2 | with_reducible exact chain hc1 hb2 | with_reducible exact chain (hc1.alloc hc1.size _) hb2); have hm2 := hc2.mono hle; (try (with_reducible have ga0 := cell_later (j := 0) (heap_last _ _) hb2; with_reducible have ga1 := cell_later (j := 1) (heap_last _ _) hb2; with_reducible have gf0 := frozen_later (heap_last _ _) hb2 0; with_reducible have gf1 := frozen_later (heap_last _ _) hb2 1; simp at ga0 ga1; (try simp at gf0 gf1))); (try (with_reducible have ga0 := cell_later (j := 0) (heap_lastD _ _) hb2; with_reducible have ga1 := cell_later (j := 1) (heap_lastD _ _) hb2; with_reducible have gf0 := frozen_later (heap_lastD _ _) hb2 0; with_reducible have gf1 := frozen_later (heap_lastD _ _) hb2 1; simp at ga0 ga1; (try simp at gf0 gf1))); (try (with_reducible have gf0 := (hb2.frozen (World.block_lt_of_cell? _ _ ga0)).trans gf0; with_reducible have gf1 := (hb2.frozen (World.block_lt_of_cell? _ _ ga1)).trans gf1; with_reducible have ga0 := (hb2.cell (World.block_lt_of_cell? _ _ ga0)).trans ga0; with_reducible have ga1 := (hb2.cell (World.block_lt_of_cell? _ _ ga1)).trans ga1))))
    all_goals (
      go_wp2_with fail
      go_meet
      first
        | with_reducible exact madeN_last hc2 hbP hP
        | with_reducible exact madeN_set hc1.size ga0 ga1 hc2 hbP hP (fun ad e _ => by have h1 := hfP.out ad e; (try simp at h1); omega)
        | exact madeN_set (by simp) ga0 ga1 hc2 hbP hP (fun ad e _ => by have h1 := hfP.out ad e; (try simp at h1); omega))
  case rest =>
    obtain ⟨g, bX, AX, lX, cX, rfl, hg, hglt, hx0, hx1, hbX, hX, hbc⟩ := hcut
    have hWc := chain hW hbc
    have hg3 : w.heap.size + 1 + 1 + 1 ≤ g := by have h1 := HSZ.out; omega
    have hszc := hbc.size
    rw [HSZ.out] at hszc
    have k0 := cell_later (j := 0) O2.out hbc
    have k1 := cell_later (j := 1) O2.out hbc
    have k2 := cell_later (j := 2) O2.out hbc
    have k3 := cell_later (j := 2) O1.out hbc
    have HS2 : Hid (∀ w', SameBut (w.heap.size + 1 + 1) wc w' → w'.cell? ⟨g, 0, none⟩ = some (.bool bX) ∧ w'.cell? ⟨g, 1, none⟩ = some (.slice AX lX cX) ∧ w'.cell? ⟨w.heap.size + 1, 0, none⟩ = some (.bool bm) ∧ w'.cell? ⟨w.heap.size + 1, 1, none⟩ = some (.slice A' n' c') ∧ w'.cell? ⟨w.heap.size + 1, 2, none⟩ = some (.slice B' m' d') ∧ w'.cell? ⟨w.heap.size, 2, none⟩ = some (.slice B m d)) := fun w' h => ⟨(h ⟨g, 0, none⟩ (by simp; omega) hglt).trans hx0, (h ⟨g, 1, none⟩ (by simp; omega) hglt).trans hx1, (h ⟨w.heap.size + 1, 0, none⟩ (by simp) (by simp; omega)).trans k0, (h ⟨w.heap.size + 1, 1, none⟩ (by simp) (by simp; omega)).trans k1, (h ⟨w.heap.size + 1, 2, none⟩ (by simp) (by simp; omega)).trans k2, (h ⟨w.heap.size, 2, none⟩ (by simp <;> omega) (by simp; omega)).trans k3⟩
    clear k0 k1 k2 k3 hx0 hx1
    have hd0 : Below wc.heap.size wc wc.drew := (Below.refl _ _).drew
    have hq0 : SameBut (w.heap.size + 1 + 1) wc wc.drew := .of hd0
    go_wp2_with fail
    go_region_held3 (fun w' => w'.cell? ⟨g, 0, none⟩ = some (.bool bX) ∧ w'.cell? ⟨g, 1, none⟩ = some (.slice AX lX cX) ∧ w'.cell? ⟨w.heap.size + 1, 0, none⟩ = some (.bool bm) ∧ w'.cell? ⟨w.heap.size + 1, 1, none⟩ = some (.slice A' n' c') ∧ w'.cell? ⟨w.heap.size + 1, 2, none⟩ = some (.slice B' m' d') ∧ w'.cell? ⟨w.heap.size, 2, none⟩ = some (.slice B m d))
      (first | with_reducible exact HS2.out _ hq0 | with_reducible exact HS2.out _ hq1 | with_reducible exact HS2.out _ hq2 | with_reducible exact HS2.out _ hq3 | with_reducible exact HS2.out _ hq4 | with_reducible exact HS2.out _ hq5 | with_reducible exact HS2.out _ (((hq5.set _ _).set _ _).set _ _))
      (first
        | (go_at_call 138; (refine (positive_any _ _ _ _).mono ?_); rintro e w1 ⟨rfl, hb1⟩; have hd1 := undrewS hb1; have hq1 : SameBut (w.heap.size + 1 + 1) wc w1 := .of hd1)
        | (go_at_call 134; (refine (product_any (La := Lb) (Lb := La) _ _ _ _ _ z hbm.out (ha'.below (chain hWc hd1)) _ _ _ _ (b : Int) (gcd_side rfl) ?hp2 (by omega)).mono ?_); (case hp2 => rw [Int.natAbs_natCast]; exact hb.below (chain hWc hd1)); rintro e w2 ⟨bP, AP, lP, cP, rfl, hbP, hP, hb2, hfP⟩; have hd2 := chain hd1 hb2; have hq2 : SameBut (w.heap.size + 1 + 1) wc w2 := .of hd2)
        | (go_at_call 156; (refine (sum_any _ _ _ _ _ _ (y * e) hbX.out (hX.below hd2) _ _ _ (z * b) hbP.out hP (by omega)).mono ?_); rintro e w3 ⟨bS, AS, lS, cS, rfl, hbS, hS, hb3, hfS⟩; have hd3 := chain hd2 hb3; have hq3 : SameBut (w.heap.size + 1 + 1) wc w3 := .of hd3)
        | (go_at_call 135; (refine (times_any _ _ _ _ _ _ _ b e (hb.below (chain hWc hd3)) (hb'.below (chain hWc hd3)) (by omega)).mono ?_); rintro e w4 ⟨AT, lT, cT, rfl, hT, hb4, hfT⟩; have hd4 := chain hd3 hb4; have hq4 : SameBut (w.heap.size + 1 + 1) wc w4 := .of hd4)
        | (go_at_call 133; (refine (lowest_any (L := La + Lb + 1) _ _ _ _ _ (y * e + z * b) hbS.out ((hS.below hb4).mono (by omega)) _ _ _ (b * e) (hT.mono (by omega)) hb0 (by omega)).mono ?_); rintro e w5 ⟨bL, AL, lL, cL, BL, mL, dL, rfl, hbL, hL1, hL2, hb5, hfL1, hfL2⟩; unfold rv; have hd5 := chain hd4 hb5; have hq5 : SameBut (w.heap.size + 1 + 1) wc w5 := .of hd5; have HB := chain hbc hd5; have y1 := cell_later (j := 0) O3.out HB; have y2 := cell_later (j := 1) O3.out HB; have y3 := cell_later (j := 2) O3.out HB; have g1 := frozen_later O3.out HB 0; have g2 := frozen_later O3.out HB 1; have g3 := frozen_later O3.out HB 2; simp at y1 y2 y3))
    have hW5 := chain hW HB
    have hbs := hW5.size
    have HA := Lib.hid hL1
    have HBB := Lib.hid hL2
    have HF1 : Hid (∀ ad, AL = some ad → w.heap.size + 3 ≤ ad.block) := fun ad e => by have h1 := hfL1.out ad e; have h3 := (chain hbc hd4).size; have h2 := HSZ.out; omega
    have HF2 : Hid (∀ ad, BL = some ad → w.heap.size + 3 ≤ ad.block) := fun ad e => by have h1 := hfL2.out ad e; have h3 := (chain hbc hd4).size; have h2 := HSZ.out; omega
    clear hL1 hL2 hfL1 hfL2
    go_wp2_with fail
    refine bodyPost_ret (v := rv bL AL lL cL BL mL dL) (by simp [rv, results, Tryz.results105, go_sem, y1, y2, y3]) rfl ⟨_, _, _, _, _, _, _, rfl, hbL, ?_, ?_, ((hW5.setCell (by simp <;> omega) _).setCell (by simp <;> omega) _).setCell (by simp <;> omega) _, Lib.hid (fun ad e => by have h1 := HF1.out ad e; omega), Lib.hid (fun ad e => by have h1 := HF2.out ad e; omega)⟩
    · have h : ∀ ad, AL = some ad → 0 < lL → ad.block ≠ w.heap.size + 1 + 1 := fun ad e _ => by have h1 := HF1.out ad e; omega
      exact ((HA.out.setCell h).setCell h).setCell h
    · have h : ∀ ad, BL = some ad → 0 < mL → ad.block ≠ w.heap.size + 1 + 1 := fun ad e _ => by have h1 := HF2.out ad e; omega
      exact ((HBB.out.setCell h).setCell h).setCell h

end Go.Proofs.YtkajibniibjblaaGreatDoor

namespace Go.Proofs.YtkajibniibjblaaGreatDoor
open Go.RowKit
set_option maxRecDepth 100000

theorem plusq_any (w : World) {La Lb : Nat} (bl : Bool) (A : Option Addr) (n c : Nat) (B : Option Addr) (m d : Nat) (q : Rat) (hbl : Hid (bl = decide (q.num < 0))) (ha : Ms w La A n c q.num.natAbs) (hb : Ms w La B m d q.den)
    (bm : Bool) (A' : Option Addr) (n' c' : Nat) (B' : Option Addr) (m' d' : Nat) (r : Rat) (hbm : Hid (bm = decide (r.num < 0))) (ha' : Ms w Lb A' n' c' r.num.natAbs) (hb' : Ms w Lb B' m' d' r.den) (hL : La + Lb + 1 ≤ 10000000000) :
    Calls Tryz.prog 105 #[.agg #[.bool bl, .slice A n c, .slice B m d], .agg #[.bool bm, .slice A' n' c', .slice B' m' d']] w (RetQ w (La + Lb + 1) (q + r)) := by
  rw [Rat.add_def']
  exact plusq_core w bl A n c B m d q.num q.den hbl ha hb bm A' n' c' B' m' d' r.num r.den hbm ha' hb' (Nat.mul_pos q.den_pos r.den_pos) hL

set_option maxHeartbeats 4000000 in
theorem minusq_any (w : World) {La Lb : Nat} (bl : Bool) (A : Option Addr) (n c : Nat) (B : Option Addr) (m d : Nat) (q : Rat) (hbl : Hid (bl = decide (q.num < 0))) (ha : Ms w La A n c q.num.natAbs) (hb : Ms w La B m d q.den)
    (bm : Bool) (A' : Option Addr) (n' c' : Nat) (B' : Option Addr) (m' d' : Nat) (r : Rat) (hbm : Hid (bm = decide (r.num < 0))) (ha' : Ms w Lb A' n' c' r.num.natAbs) (hb' : Ms w Lb B' m' d' r.den) (hL : La + Lb + 1 ≤ 10000000000) :
    Calls Tryz.prog 107 #[.agg #[.bool bl, .slice A n c, .slice B m d], .agg #[.bool bm, .slice A' n' c', .slice B' m' d']] w (RetQ w (La + Lb + 1) (q - r)) := by
  have hneg : q - r = mkRat (q.num * r.den + -r.num * q.den) (q.den * r.den) := by rw [Rat.sub_eq_add_neg, Rat.add_def', Rat.neg_num, Rat.neg_den]
  have hpos : 0 < q.den * r.den := Nat.mul_pos q.den_pos r.den_pos
  rw [hneg]
  generalize q.num = y at *
  generalize q.den = b at *
  generalize r.num = z at *
  generalize r.den = e at *
  clear hneg
  have hW : Below w.heap.size w (((w.alloc (.cells #[.bool bl, .slice A n c, .slice B m d] 118)).alloc (.cells #[.bool bm, .slice A' n' c', .slice B' m' d'] 118)).alloc (.cells #[.bool false, .slice none 0 0, .slice none 0 0] 118)) := ((((Below.refl w.heap.size w).alloc (Nat.le_refl _) _).alloc (by simp <;> omega) _).alloc (by simp <;> omega) _)
  have o1 := heap_more (heap_more (heap_last w (.cells #[.bool bl, .slice A n c, .slice B m d] 118)) (.cells #[.bool bm, .slice A' n' c', .slice B' m' d'] 118)) (.cells #[.bool false, .slice none 0 0, .slice none 0 0] 118)
  have O1 := Lib.hid o1
  clear o1
  have o2 := heap_more (heap_last (w.alloc (.cells #[.bool bl, .slice A n c, .slice B m d] 118)) (.cells #[.bool bm, .slice A' n' c', .slice B' m' d'] 118)) (.cells #[.bool false, .slice none 0 0, .slice none 0 0] 118)
  rw [show (w.alloc (.cells #[.bool bl, .slice A n c, .slice B m d] 118)).heap.size = w.heap.size + 1 by simp] at o2
  have O2 := Lib.hid o2
  clear o2
  have o3 := heap_last ((w.alloc (.cells #[.bool bl, .slice A n c, .slice B m d] 118)).alloc (.cells #[.bool bm, .slice A' n' c', .slice B' m' d'] 118)) (.cells #[.bool false, .slice none 0 0, .slice none 0 0] 118)
  rw [show ((w.alloc (.cells #[.bool bl, .slice A n c, .slice B m d] 118)).alloc (.cells #[.bool bm, .slice A' n' c', .slice B' m' d'] 118)).heap.size = w.heap.size + 1 + 1 by simp] at o3
  have O3 := Lib.hid o3
  clear o3
  have hsz : (((w.alloc (.cells #[.bool bl, .slice A n c, .slice B m d] 118)).alloc (.cells #[.bool bm, .slice A' n' c', .slice B' m' d'] 118)).alloc (.cells #[.bool false, .slice none 0 0, .slice none 0 0] 118)).heap.size = w.heap.size + 1 + 1 + 1 := by simp
  have HSZ := Lib.hid hsz
  clear hsz
  have HS : Hid (∀ w', Below (w.heap.size + 1 + 1) (((w.alloc (.cells #[.bool bl, .slice A n c, .slice B m d] 118)).alloc (.cells #[.bool bm, .slice A' n' c', .slice B' m' d'] 118)).alloc (.cells #[.bool false, .slice none 0 0, .slice none 0 0] 118)) w' → w'.cell? ⟨w.heap.size, 0, none⟩ = some (.bool bl) ∧ w'.cell? ⟨w.heap.size, 1, none⟩ = some (.slice A n c) ∧ w'.cell? ⟨w.heap.size, 2, none⟩ = some (.slice B m d) ∧ w'.cell? ⟨w.heap.size + 1, 0, none⟩ = some (.bool bm) ∧ w'.cell? ⟨w.heap.size + 1, 1, none⟩ = some (.slice A' n' c') ∧ w'.cell? ⟨w.heap.size + 1, 2, none⟩ = some (.slice B' m' d')) := fun w' h => ⟨cell_at O1.out (by omega) h, cell_at O1.out (by omega) h, cell_at O1.out (by omega) h, cell_at O2.out (by omega) h, cell_at O2.out (by omega) h, cell_at O2.out (by omega) h⟩
  have hc0 : Below (((w.alloc (.cells #[.bool bl, .slice A n c, .slice B m d] 118)).alloc (.cells #[.bool bm, .slice A' n' c', .slice B' m' d'] 118)).alloc (.cells #[.bool false, .slice none 0 0, .slice none 0 0] 118)).heap.size (((w.alloc (.cells #[.bool bl, .slice A n c, .slice B m d] 118)).alloc (.cells #[.bool bm, .slice A' n' c', .slice B' m' d'] 118)).alloc (.cells #[.bool false, .slice none 0 0, .slice none 0 0] 118)) (((w.alloc (.cells #[.bool bl, .slice A n c, .slice B m d] 118)).alloc (.cells #[.bool bm, .slice A' n' c', .slice B' m' d'] 118)).alloc (.cells #[.bool false, .slice none 0 0, .slice none 0 0] 118)).drew := (Below.refl _ _).drew
  have hle : w.heap.size + 1 + 1 ≤ (((w.alloc (.cells #[.bool bl, .slice A n c, .slice B m d] 118)).alloc (.cells #[.bool bm, .slice A' n' c', .slice B' m' d'] 118)).alloc (.cells #[.bool false, .slice none 0 0, .slice none 0 0] 118)).heap.size := by simp
  have hle2 : w.heap.size + 1 + 1 ≤ w.heap.size + 1 + 1 := Nat.le_refl _
  have hm0 := hc0.mono hle
  go_enter Tryz.func107, Tryz.ntmps107
  go_wp2_with fail
  go_region_held3 (fun w' => w'.cell? ⟨w.heap.size, 0, none⟩ = some (.bool bl) ∧ w'.cell? ⟨w.heap.size, 1, none⟩ = some (.slice A n c) ∧ w'.cell? ⟨w.heap.size, 2, none⟩ = some (.slice B m d) ∧ w'.cell? ⟨w.heap.size + 1, 0, none⟩ = some (.bool bm) ∧ w'.cell? ⟨w.heap.size + 1, 1, none⟩ = some (.slice A' n' c') ∧ w'.cell? ⟨w.heap.size + 1, 2, none⟩ = some (.slice B' m' d'))
    (first | with_reducible exact HS.out _ hm0 | with_reducible exact HS.out _ hm1 | with_reducible exact HS.out _ hm2 | with_reducible exact HS.out _ (((hm2.setCell hle2 _).setCell hle2 _).setCell hle2 _))
    (first
      | (go_at_call 155; (refine (turned_any _ _ _ _ _ z hbm.out (ha'.below (chain hW hc0))).mono ?_); rintro e w1 ⟨rfl, hb1⟩; obtain ⟨bt, hbt⟩ : ∃ bt, decide (-z < 0) = bt := ⟨_, rfl⟩; rw [hbt]; have HBT : Hid (bt = decide (-z < 0)) := hbt.symm; clear hbt; have hc1 := undrewS hb1; have hm1 := hc1.mono hle)
      | (go_at_call 105; (refine (plusq_core (La := La) (Lb := Lb) _ _ _ _ _ _ _ _ y b hbl (ha.below (chain hW hc1)) (hb.below (chain hW hc1)) _ _ _ _ _ _ _ (-z) e HBT (by rw [Int.natAbs_neg]; exact ha'.below (chain hW hc1)) (hb'.below (chain hW hc1)) hpos hL).mono ?_); rintro e w2 ⟨bL, AL, lL, cL, BL, mL, dL, rfl, hbL, hL1, hL2, hb2, hfL1, hfL2⟩; unfold rv; have hc2 := chain hc1 hb2; have hm2 := hc2.mono hle; have y1 := cell_later (j := 0) O3.out hc2; have y2 := cell_later (j := 1) O3.out hc2; have y3 := cell_later (j := 2) O3.out hc2; have g1 := frozen_later O3.out hc2 0; have g2 := frozen_later O3.out hc2 1; have g3 := frozen_later O3.out hc2 2; simp at y1 y2 y3))
  have hW5 := chain hW hc2
  have hbs := hW5.size
  have HF1 : Hid (∀ ad, AL = some ad → w.heap.size + 3 ≤ ad.block) := fun ad e => by have h1 := hfL1.out ad e; have h3 := hc1.size; have h2 := HSZ.out; omega
  have HF2 : Hid (∀ ad, BL = some ad → w.heap.size + 3 ≤ ad.block) := fun ad e => by have h1 := hfL2.out ad e; have h3 := hc1.size; have h2 := HSZ.out; omega
  have HA := Lib.hid hL1
  have HBB := Lib.hid hL2
  clear hL1 hL2
  go_wp2_with fail
  refine bodyPost_ret (v := rv bL AL lL cL BL mL dL) (by simp [rv, results, Tryz.results107, go_sem, y1, y2, y3]) rfl ⟨_, _, _, _, _, _, _, rfl, hbL, ?_, ?_, ((hW5.setCell (by simp <;> omega) _).setCell (by simp <;> omega) _).setCell (by simp <;> omega) _, Lib.hid (fun ad e => by have h1 := HF1.out ad e; omega), Lib.hid (fun ad e => by have h1 := HF2.out ad e; omega)⟩
  · have h : ∀ ad, AL = some ad → 0 < lL → ad.block ≠ w.heap.size + 1 + 1 := fun ad e _ => by have h1 := HF1.out ad e; omega
    exact ((HA.out.setCell h).setCell h).setCell h
  · have h : ∀ ad, BL = some ad → 0 < mL → ad.block ≠ w.heap.size + 1 + 1 := fun ad e _ => by have h1 := HF2.out ad e; omega
    exact ((HBB.out.setCell h).setCell h).setCell h

theorem rat_field0 (W : World) (b : Bool) (A : Option Addr) (l c : Nat) (B : Option Addr) (m d : Nat) : (Instr.field 118 (.agg #[.bool b, .slice A l c, .slice B m d]) 0).run Tryz.prog W = .ok (.agg #[.bool b, .slice A l c]) W := by kernel_rfl

set_option maxHeartbeats 1000000 in
theorem orderq_any (w : World) {La Lb : Nat} (bl : Bool) (A : Option Addr) (n c : Nat) (B : Option Addr) (m d : Nat) (q : Rat) (hbl : Hid (bl = decide (q.num < 0))) (ha : Ms w La A n c q.num.natAbs) (hb : Ms w La B m d q.den)
    (bm : Bool) (A' : Option Addr) (n' c' : Nat) (B' : Option Addr) (m' d' : Nat) (r : Rat) (hbm : Hid (bm = decide (r.num < 0))) (ha' : Ms w Lb A' n' c' r.num.natAbs) (hb' : Ms w Lb B' m' d' r.den) (hL : La + Lb + 1 ≤ 10000000000) :
    Calls Tryz.prog 91 #[.agg #[.bool bl, .slice A n c, .slice B m d], .agg #[.bool bm, .slice A' n' c', .slice B' m' d']] w fun e w' => e = .returned (.int .i64 (q - r).num.sign) ∧ Below w.heap.size w w' := by
  obtain ⟨s, hs⟩ : ∃ s, q - r = s := ⟨_, rfl⟩
  rw [hs]
  have HQ := Lib.hid hs
  clear hs
  have hf0 := rat_field0
  have hW : Below w.heap.size w ((w.alloc (.cells #[.bool bl, .slice A n c, .slice B m d] 118)).alloc (.cells #[.bool bm, .slice A' n' c', .slice B' m' d'] 118)) := (((Below.refl w.heap.size w).alloc (Nat.le_refl _) _).alloc (by simp <;> omega) _)
  have o1 := heap_more (heap_last w (.cells #[.bool bl, .slice A n c, .slice B m d] 118)) (.cells #[.bool bm, .slice A' n' c', .slice B' m' d'] 118)
  have O1 := Lib.hid o1
  clear o1
  have o2 := heap_last (w.alloc (.cells #[.bool bl, .slice A n c, .slice B m d] 118)) (.cells #[.bool bm, .slice A' n' c', .slice B' m' d'] 118)
  rw [show (w.alloc (.cells #[.bool bl, .slice A n c, .slice B m d] 118)).heap.size = w.heap.size + 1 by simp] at o2
  have O2 := Lib.hid o2
  clear o2
  have hsz : ((w.alloc (.cells #[.bool bl, .slice A n c, .slice B m d] 118)).alloc (.cells #[.bool bm, .slice A' n' c', .slice B' m' d'] 118)).heap.size = w.heap.size + 1 + 1 := by simp
  have HSZ := Lib.hid hsz
  clear hsz
  go_enter Tryz.func91, Tryz.ntmps91
  go_wp2_with fail
  refine (minusq_any (La := La) (Lb := Lb) _ _ _ _ _ _ _ _ q hbl (ha.below hW) (hb.below hW) _ _ _ _ _ _ _ r hbm (ha'.below hW) (hb'.below hW) hL).mono ?_
  rintro e w1 ⟨bL, AL, lL, cL, BL, mL, dL, rfl, hbL, hL1, hL2, hb1, hfL1, hfL2⟩
  rw [HQ.out] at hbL hL1
  unfold rv
  go_wp2_with fail
  refine (side_any _ _ _ _ _ s.num hbL.out hL1).mono ?_
  rintro e w2 ⟨rfl, hb2⟩
  go_wp2
  go_ret
  exact ⟨rfl, chain (chain hW hb1) hb2⟩

set_option maxHeartbeats 1000000 in
theorem overq_any (w : World) {La Lb : Nat} (bl : Bool) (A : Option Addr) (n c : Nat) (B : Option Addr) (m d : Nat) (q : Rat) (hbl : Hid (bl = decide (q.num < 0))) (ha : Ms w La A n c q.num.natAbs) (hb : Ms w La B m d q.den)
    (bm : Bool) (A' : Option Addr) (n' c' : Nat) (B' : Option Addr) (m' d' : Nat) (r : Rat) (hbm : Hid (bm = decide (r.num < 0))) (ha' : Ms w Lb A' n' c' r.num.natAbs) (hb' : Ms w Lb B' m' d' r.den) (hr : r ≠ 0) (hL : La + Lb ≤ 10000000000) :
    Calls Tryz.prog 109 #[.agg #[.bool bl, .slice A n c, .slice B m d], .agg #[.bool bm, .slice A' n' c', .slice B' m' d']] w (RetQ w (La + Lb) (q / r)) := by
  rw [Rat.div_def]
  have hn : r⁻¹.num = r.num.sign * r.den := Rat.num_inv r
  have hz : r.num ≠ 0 := fun h => hr (Rat.num_eq_zero.1 h)
  have hd : r⁻¹.den = r.num.natAbs := by rw [Rat.den_inv, if_neg hz]
  have hna : r⁻¹.num.natAbs = r.den := by
    rw [hn, Int.natAbs_mul, Int.natAbs_natCast, Int.natAbs_sign_of_ne_zero hz, Nat.one_mul]
  have hdec : decide (r⁻¹.num < 0) = decide (r.num < 0) := by
    rw [decide_eq_decide, hn]
    have hp := r.den_pos
    rcases Int.lt_trichotomy r.num 0 with h | h | h
    · rw [Int.sign_eq_neg_one_of_neg h]; omega
    · exact absurd h hz
    · rw [Int.sign_eq_one_of_pos h]; omega
  obtain ⟨s, hs⟩ : ∃ s, r⁻¹ = s := ⟨_, rfl⟩
  rw [hs] at hn hd hna hdec ⊢
  have hb2 : Ms w Lb B' m' d' s.num.natAbs := by rw [hna]; exact hb'
  have ha2 : Ms w Lb A' n' c' s.den := by rw [hd]; exact ha'
  have hbm2 : Hid (bm = decide (s.num < 0)) := by show _ = _; rw [hdec]; exact hbm.out
  obtain ⟨u, hu⟩ : ∃ u, q * s = u := ⟨_, rfl⟩
  rw [hu]
  have HU := Lib.hid hu
  clear hs hn hd hna hdec ha' hb' hbm hz hr hu
  have hW : Below w.heap.size w (((w.alloc (.cells #[.bool bl, .slice A n c, .slice B m d] 118)).alloc (.cells #[.bool bm, .slice A' n' c', .slice B' m' d'] 118)).alloc (.cells #[.bool false, .slice none 0 0, .slice none 0 0] 118)) := ((((Below.refl w.heap.size w).alloc (Nat.le_refl _) _).alloc (by simp <;> omega) _).alloc (by simp <;> omega) _)
  have o1 := heap_more (heap_more (heap_last w (.cells #[.bool bl, .slice A n c, .slice B m d] 118)) (.cells #[.bool bm, .slice A' n' c', .slice B' m' d'] 118)) (.cells #[.bool false, .slice none 0 0, .slice none 0 0] 118)
  have O1 := Lib.hid o1
  clear o1
  have o2 := heap_more (heap_last (w.alloc (.cells #[.bool bl, .slice A n c, .slice B m d] 118)) (.cells #[.bool bm, .slice A' n' c', .slice B' m' d'] 118)) (.cells #[.bool false, .slice none 0 0, .slice none 0 0] 118)
  rw [show (w.alloc (.cells #[.bool bl, .slice A n c, .slice B m d] 118)).heap.size = w.heap.size + 1 by simp] at o2
  have O2 := Lib.hid o2
  clear o2
  have o3 := heap_last ((w.alloc (.cells #[.bool bl, .slice A n c, .slice B m d] 118)).alloc (.cells #[.bool bm, .slice A' n' c', .slice B' m' d'] 118)) (.cells #[.bool false, .slice none 0 0, .slice none 0 0] 118)
  rw [show ((w.alloc (.cells #[.bool bl, .slice A n c, .slice B m d] 118)).alloc (.cells #[.bool bm, .slice A' n' c', .slice B' m' d'] 118)).heap.size = w.heap.size + 1 + 1 by simp] at o3
  have O3 := Lib.hid o3
  clear o3
  have hsz : (((w.alloc (.cells #[.bool bl, .slice A n c, .slice B m d] 118)).alloc (.cells #[.bool bm, .slice A' n' c', .slice B' m' d'] 118)).alloc (.cells #[.bool false, .slice none 0 0, .slice none 0 0] 118)).heap.size = w.heap.size + 1 + 1 + 1 := by simp
  have HSZ := Lib.hid hsz
  clear hsz
  go_enter Tryz.func109, Tryz.ntmps109
  go_wp2_with fail
  refine (timesq_any (La := La) (Lb := Lb) _ _ _ _ _ _ _ _ q hbl (ha.below hW) (hb.below hW) _ _ _ _ _ _ _ s hbm2 (hb2.below hW) (ha2.below hW) hL).mono ?_
  rintro e w1 ⟨bL, AL, lL, cL, BL, mL, dL, rfl, hbL, hL1, hL2, hc1, hfL1, hfL2⟩
  rw [HU.out] at hbL hL1 hL2
  unfold rv
  have hW5 := chain hW hc1
  have hbs := hW5.size
  have y1 := cell_later (j := 0) O3.out hc1
  have y2 := cell_later (j := 1) O3.out hc1
  have y3 := cell_later (j := 2) O3.out hc1
  have g1 := frozen_later O3.out hc1 0
  have g2 := frozen_later O3.out hc1 1
  have g3 := frozen_later O3.out hc1 2
  simp at y1 y2 y3
  have HF1 : Hid (∀ ad, AL = some ad → w.heap.size + 3 ≤ ad.block) := fun ad e => by have h1 := hfL1.out ad e; have h2 := HSZ.out; omega
  have HF2 : Hid (∀ ad, BL = some ad → w.heap.size + 3 ≤ ad.block) := fun ad e => by have h1 := hfL2.out ad e; have h2 := HSZ.out; omega
  have HA := Lib.hid hL1
  have HBB := Lib.hid hL2
  clear hL1 hL2
  go_wp2_with fail
  refine bodyPost_ret (v := rv bL AL lL cL BL mL dL) (by simp [rv, results, Tryz.results109, go_sem, y1, y2, y3]) rfl ⟨_, _, _, _, _, _, _, rfl, hbL, ?_, ?_, ((hW5.setCell (by simp <;> omega) _).setCell (by simp <;> omega) _).setCell (by simp <;> omega) _, Lib.hid (fun ad e => by have h1 := HF1.out ad e; omega), Lib.hid (fun ad e => by have h1 := HF2.out ad e; omega)⟩
  · have h : ∀ ad, AL = some ad → 0 < lL → ad.block ≠ w.heap.size + 1 + 1 := fun ad e _ => by have h1 := HF1.out ad e; omega
    exact ((HA.out.setCell h).setCell h).setCell h
  · have h : ∀ ad, BL = some ad → 0 < mL → ad.block ≠ w.heap.size + 1 + 1 := fun ad e _ => by have h1 := HF2.out ad e; omega
    exact ((HBB.out.setCell h).setCell h).setCell h

end Go.Proofs.YtkajibniibjblaaGreatDoor

namespace Go.Proofs.YtkajibniibjblaaGreatDoor
open Go.RowKit
set_option maxRecDepth 100000

theorem bcell {W w1 : World} (hb : Below W.heap.size W w1) : (∀ b o, b < W.heap.size → w1.cell? ⟨b, o, none⟩ = W.cell? ⟨b, o, none⟩) ∧ (∀ b o, b < W.heap.size → w1.frozen? ⟨b, o, none⟩ = W.frozen? ⟨b, o, none⟩) :=
  ⟨fun b o h => hb.cell (p := ⟨b, o, none⟩) h, fun b o h => hb.frozen (p := ⟨b, o, none⟩) h⟩

/-- A number in a new block of two cells, its own memory new too. -/
def MadeF (Bd : Nat) (W : World) (p : Value) (L : Nat) (z : Int) (wx : World) : Prop := ∃ g b A l c, p = .pointer (some ⟨g, 0, none⟩) ∧ Bd ≤ g ∧ g < wx.heap.size ∧ wx.cell? ⟨g, 0, none⟩ = some (.bool b) ∧ wx.cell? ⟨g, 1, none⟩ = some (.slice A l c) ∧ Hid (b = decide (z < 0)) ∧ Ms wx L A l c z.natAbs ∧ Below W.heap.size W wx ∧ Hid (∀ ad, A = some ad → Bd ≤ ad.block)

set_option maxHeartbeats 8000000 in
theorem downq_any (w : World) {La : Nat} (bl : Bool) (A : Option Addr) (n c : Nat) (B : Option Addr) (m d : Nat) (q : Rat) (hbl : Hid (bl = decide (q.num < 0))) (ha : Ms w La A n c q.num.natAbs) (hb : Ms w La B m d q.den) (hL : La + La ≤ 10000000000) :
    Calls Tryz.prog 88 #[.agg #[.bool bl, .slice A n c, .slice B m d]] w (RetN w (max La 1 + 1) (q.num / (q.den : Int))) := by
  have hpos : 0 < q.den := q.den_pos
  generalize q.num = y at *
  generalize q.den = b at *
  have hW : Below w.heap.size w ((w.alloc (.cells #[.bool bl, .slice A n c, .slice B m d] 118)).alloc (.cells #[.bool false, .slice none 0 0] 116)) := (((Below.refl w.heap.size w).alloc (Nat.le_refl _) _).alloc (by simp <;> omega) _)
  have o1 := heap_more (heap_last w (.cells #[.bool bl, .slice A n c, .slice B m d] 118)) (.cells #[.bool false, .slice none 0 0] 116)
  have O1 := Lib.hid o1
  clear o1
  have o2 := heap_last (w.alloc (.cells #[.bool bl, .slice A n c, .slice B m d] 118)) (.cells #[.bool false, .slice none 0 0] 116)
  rw [show (w.alloc (.cells #[.bool bl, .slice A n c, .slice B m d] 118)).heap.size = w.heap.size + 1 by simp] at o2
  have O2 := Lib.hid o2
  clear o2
  have hsz : ((w.alloc (.cells #[.bool bl, .slice A n c, .slice B m d] 118)).alloc (.cells #[.bool false, .slice none 0 0] 116)).heap.size = w.heap.size + 1 + 1 := by simp
  have HSZ := Lib.hid hsz
  clear hsz
  have HS : Hid (∀ w', Below (w.heap.size + 1) ((w.alloc (.cells #[.bool bl, .slice A n c, .slice B m d] 118)).alloc (.cells #[.bool false, .slice none 0 0] 116)) w' → w'.cell? ⟨w.heap.size, 0, none⟩ = some (.bool bl) ∧ w'.cell? ⟨w.heap.size, 1, none⟩ = some (.slice A n c) ∧ w'.cell? ⟨w.heap.size, 2, none⟩ = some (.slice B m d)) := fun w' h => ⟨cell_at O1.out (by omega) h, cell_at O1.out (by omega) h, cell_at O1.out (by omega) h⟩
  have hle : w.heap.size + 1 ≤ ((w.alloc (.cells #[.bool bl, .slice A n c, .slice B m d] 118)).alloc (.cells #[.bool false, .slice none 0 0] 116)).heap.size := by simp
  go_enter Tryz.func88, Tryz.ntmps88
  go_upto_region 1 with fail
  go_cut [3] (fun p3 wx => MadeF ((w.alloc (.cells #[.bool bl, .slice A n c, .slice B m d] 118)).alloc (.cells #[.bool false, .slice none 0 0] 116)).heap.size ((w.alloc (.cells #[.bool bl, .slice A n c, .slice B m d] 118)).alloc (.cells #[.bool false, .slice none 0 0] 116)) p3 (max La 1 + 1) (y / (b : Int)) wx)
  case first =>
    go_region_held3 (fun w' => w'.cell? ⟨w.heap.size, 0, none⟩ = some (.bool bl) ∧ w'.cell? ⟨w.heap.size, 1, none⟩ = some (.slice A n c) ∧ w'.cell? ⟨w.heap.size, 2, none⟩ = some (.slice B m d))
      ((refine HS.out _ (Below.mono ?_ hle); repeat (first | with_reducible exact Below.refl _ _ | with_reducible exact hc1 | with_reducible exact hc2 | (with_reducible refine Below.setCell ?_ (by first | omega | (simp <;> omega)) _) | (with_reducible refine Below.alloc ?_ (by first | omega | (simp <;> omega)) _) | with_reducible refine Below.drew ?_)))
      (first
        | (go_at_call 138; (refine (positive_any _ _ _ _).mono ?_); rintro e w1 ⟨rfl, hb1⟩; have hcl1 := (bcell hb1).1; have hfr1 := (bcell hb1).2; have hs1 := hb1.size; (try simp at hs1); (try have ht1 : w.heap.size + 1 + 1 < w1.heap.size := by omega); (try have hu1 : w.heap.size + 1 + 1 + 1 < w1.heap.size := by omega); have hc1 : Below ((w.alloc (.cells #[.bool bl, .slice A n c, .slice B m d] 118)).alloc (.cells #[.bool false, .slice none 0 0] 116)).heap.size ((w.alloc (.cells #[.bool bl, .slice A n c, .slice B m d] 118)).alloc (.cells #[.bool false, .slice none 0 0] 116)) w1 := (by refine Below.trans ?_ (hb1.mono (by first | omega | (simp <;> omega))); repeat (first | with_reducible exact Below.refl _ _ | with_reducible exact hc1 | with_reducible exact hc2 | (with_reducible refine Below.setCell ?_ (by first | omega | (simp <;> omega)) _) | (with_reducible refine Below.alloc ?_ (by first | omega | (simp <;> omega)) _) | with_reducible refine Below.drew ?_)))
        | (go_at_call 137; (refine (parts_any (La := La) (Lb := La) _ _ _ _ _ y hbl.out ?hp1 _ _ _ b ?hp2 hpos (by omega)).mono ?_); (case hp1 => refine ha.below (chain hW ?_); repeat (first | with_reducible exact Below.refl _ _ | with_reducible exact hc1 | with_reducible exact hc2 | (with_reducible refine Below.setCell ?_ (by first | omega | (simp <;> omega)) _) | (with_reducible refine Below.alloc ?_ (by first | omega | (simp <;> omega)) _) | with_reducible refine Below.drew ?_)); (case hp2 => refine hb.below (chain hW ?_); repeat (first | with_reducible exact Below.refl _ _ | with_reducible exact hc1 | with_reducible exact hc2 | (with_reducible refine Below.setCell ?_ (by first | omega | (simp <;> omega)) _) | (with_reducible refine Below.alloc ?_ (by first | omega | (simp <;> omega)) _) | with_reducible refine Below.drew ?_)); rintro e w2 ⟨bQ, AQ, lQ, cQ, BR', mR, dR, rfl, hbQ, hQ, hR, hb2, hfQ⟩; have hcl2 := (bcell hb2).1; have hfr2 := (bcell hb2).2; have hs2 := hb2.size; (try simp at hs2); (try have ht2 : w1.heap.size < w2.heap.size := by omega); (try have hu2 : w1.heap.size + 1 < w2.heap.size := by omega); (try have hv1 : w.heap.size + 1 + 1 < w2.heap.size := by omega); (try have hv2 : w.heap.size + 1 + 1 + 1 < w2.heap.size := by omega); (try have hx1 : w.heap.size + 1 + 1 < w1.heap.size + 1 := by omega); (try have hx2 : w.heap.size + 1 + 1 + 1 < w1.heap.size + 1 := by omega); have hc2 : Below ((w.alloc (.cells #[.bool bl, .slice A n c, .slice B m d] 118)).alloc (.cells #[.bool false, .slice none 0 0] 116)).heap.size ((w.alloc (.cells #[.bool bl, .slice A n c, .slice B m d] 118)).alloc (.cells #[.bool false, .slice none 0 0] 116)) w2 := (by refine Below.trans ?_ (hb2.mono (by first | omega | (simp <;> omega))); repeat (first | with_reducible exact Below.refl _ _ | with_reducible exact hc1 | with_reducible exact hc2 | (with_reducible refine Below.setCell ?_ (by first | omega | (simp <;> omega)) _) | (with_reducible refine Below.alloc ?_ (by first | omega | (simp <;> omega)) _) | with_reducible refine Below.drew ?_))))
    all_goals (
      go_wp2_with fail
      go_meet
      refine ⟨_, bQ, AQ, lQ, cQ, rfl, ?_, ?_, ?_, ?_, hbQ, ?_, ?_, ?_⟩
      · first | omega | (simp <;> omega)
      · first | omega | (simp <;> omega)
      · first
          | (go_simp; done)
          | (go_simp; refine World.cell?_setCell_same (u := .bool false) _ _ _ ?_; go_simp; done)
      · first
          | (go_simp; done)
          | (go_simp; refine World.cell?_setCell_same (u := .slice none 0 0) _ _ _ ?_; go_simp; done)
      · repeat (first | with_reducible exact hQ | (with_reducible refine Ms.setCell ?_ (fun ad e _ => by have h1 := hfQ.out ad e; (try simp at h1); omega)) | (with_reducible refine Ms.below ?_ ((Below.refl _ _).alloc (Nat.le_refl _) _)))
      · repeat (first | with_reducible exact Below.refl _ _ | with_reducible exact hc1 | with_reducible exact hc2 | (with_reducible refine Below.setCell ?_ (by first | omega | (simp <;> omega)) _) | (with_reducible refine Below.alloc ?_ (by first | omega | (simp <;> omega)) _) | with_reducible refine Below.drew ?_)
      · exact Lib.hid (fun ad e => by have h1 := hfQ.out ad e; (try simp at h1); first | omega | (simp <;> omega)))
  case rest =>
    obtain ⟨g, bX, AX, lX, cX, rfl, hg, hglt, hx0, hx1, hbX, hX, hbc, hfX⟩ := hcut
    have hW1 := chain hW hbc
    have hs := hW1.size
    have y1 := cell_later (j := 0) O2.out hbc
    have y2 := cell_later (j := 1) O2.out hbc
    have g1 := frozen_later O2.out hbc 0
    have g2 := frozen_later O2.out hbc 1
    simp at y1 y2
    have HX := Lib.hid hX
    have HF : Hid (∀ ad, AX = some ad → w.heap.size + 2 ≤ ad.block) := fun ad e => by have h1 := hfX.out ad e; have h2 := HSZ.out; omega
    clear hX hfX
    go_wp2
    refine bodyPost_ret (v := .agg #[.bool bX, .slice AX lX cX]) (by simp [results, Tryz.results88, go_sem, y1, y2]) rfl ⟨_, _, _, _, rfl, hbX, ?_, (hW1.setCell (by simp <;> omega) _).setCell (by simp <;> omega) _, Lib.hid (fun ad e => by have h1 := HF.out ad e; omega)⟩
    have h : ∀ ad, AX = some ad → 0 < lX → ad.block ≠ w.heap.size + 1 := fun ad e _ => by have h1 := HF.out ad e; omega
    exact (HX.out.setCell h).setCell h

end Go.Proofs.YtkajibniibjblaaGreatDoor

namespace Go.Proofs.YtkajibniibjblaaGreatDoor
open Go.RowKit
set_option maxRecDepth 100000

theorem itoa_nat (u : Nat) : Lib.itoa (u : Int) = Lib.decDigits u := by
  rw [Lib.itoa, if_neg (by omega)]; rfl
theorem dec_small {u : Nat} (h : u < 10) : Lib.decDigits u = [UInt8.ofNat (48 + u)] := by rw [Lib.decDigits, dif_pos h]
theorem nDigits_small {u : Nat} (h : u < 10) : Lib.nDigits u = 1 := by rw [← Lib.decDigits_length, dec_small h]; rfl
theorem toldS_one : toldS ((1 : Nat) : Int) = ⟨#[49]⟩ := by
  rw [toldS, if_pos (by rw [fits, show ((1 : Nat) : Int).natAbs = 1 from rfl, nDigits_small (by decide)]; rfl), itoa_nat, dec_small (by decide)]
  rfl
/-- A positive number's text is not "0", and bears no sign. -/
theorem den_text {D : ByteArray} {b : Nat} (hb : 0 < b) (h : D.data.toList = Lib.itoa (b : Int)) : D ≠ ⟨#[48]⟩ ∧ ∃ h0 : 0 < D.size, (D[0]'h0).toNat ≠ 45 := by
  rw [itoa_nat] at h
  constructor
  · intro e
    rw [e] at h
    have h1 := dval_decDigits b
    rw [← h] at h1
    have : b = 0 := h1.symm
    omega
  · obtain ⟨c, r, hc, _, h45⟩ := dec_cons b
    have h0 : 0 < D.size := by
      have : D.size = D.data.toList.length := rfl
      rw [this, h, hc]; simp
    refine ⟨h0, ?_⟩
    rw [first_byte D h0 (x := c) (by rw [h, hc]; rfl)]
    exact h45

set_option maxHeartbeats 1000000 in
theorem fcheck_ok (w : World) (henv : Env w) (N D : ByteArray) (q : Rat) (h : VQ N D q) :
    Calls Tryz.prog 84 #[.agg #[.string N, .string D]] w fun e w' => e = .returned (.int .i64 0) ∧ Below w.heap.size w w' := by
  obtain ⟨hN, hD⟩ := h
  have e1 := hN.ok
  have e2 := hD.ok
  obtain ⟨d1, d2, d3⟩ := den_text q.den_pos hD.text
  have hg : Nat.gcd q.num.natAbs ((q.den : Int)).natAbs = 1 := by rw [Int.natAbs_natCast]; exact q.reduced
  have HG := Lib.hid hg
  have d4 : ¬ D.toList = [48] := by
    rw [Lib.toList_data]
    intro h
    exact d1 (by rcases D with ⟨⟨l⟩⟩; simp at h; rw [h])
  have d5 : (((D[0]'d2).toNat : Int) == 45) = false := by simp; omega
  clear hg d1
  have hW : Below w.heap.size w (w.alloc (.cells #[.string N, .string D] 51)) := ((Below.refl w.heap.size w).alloc (Nat.le_refl _) _)
  have o1 := heap_last w (.cells #[.string N, .string D] 51)
  have O1 := Lib.hid o1
  clear o1
  have hsz : (w.alloc (.cells #[.string N, .string D] 51)).heap.size = w.heap.size + 1 := by simp
  have HSZ := Lib.hid hsz
  clear hsz
  have hE := henv.below hW
  have HE := Lib.hid hE
  clear hE henv
  go_enter Tryz.func84, Tryz.ntmps84
  go_wp2_with fail
  refine (check_any _ N).mono ?_
  rintro e w1 ⟨rfl, hb1⟩
  rw [e1]
  have x1 := cell_later (j := 1) O1.out hb1
  simp at x1
  go_wp2_with fail
  refine (check_any _ D).mono ?_
  rintro e w2 ⟨rfl, hb2⟩
  rw [e2]
  have hb12 := chain hb1 hb2
  have x2 := cell_later (j := 0) O1.out hb12
  have x3 := cell_later (j := 1) O1.out hb12
  simp at x2 x3
  clear x1
  go_wp2_with fail
  refine (gcd_any _ (HE.out.below hb12) N D q.num (q.den : Int) hN hD).mono ?_
  rintro e w3 ⟨rfl, hb3⟩
  rw [HG.out, toldS_one]
  go_wp2
  go_ret
  exact ⟨rfl, chain (chain hW hb12) hb3⟩

end Go.Proofs.YtkajibniibjblaaGreatDoor
