/-
  frac: Lowest, Read, From, positive, Told.
-/
import Derived.Test.YtkajibniibjblaaGreatDoorInt
namespace Go.Proofs.YtkajibniibjblaaGreatDoor
open Go.RowKit
set_option maxRecDepth 100000

/-- A Ratio as a value. -/
def rv (bl : Bool) (A : Option Addr) (l c : Nat) (B : Option Addr) (m d : Nat) : Value := .agg #[.bool bl, .slice A l c, .slice B m d]

/-- A call returned a Ratio that is q, its slices new. -/
def RetQ (w : World) (L : Nat) (q : Rat) : Ending → World → Prop := fun e w' =>
  ∃ bl A l c B m d, e = .returned (rv bl A l c B m d) ∧ Hid (bl = decide (q.num < 0)) ∧ Ms w' L A l c q.num.natAbs ∧ Ms w' L B m d q.den ∧ Below w.heap.size w w' ∧ Hid (∀ ad, A = some ad → w.heap.size ≤ ad.block) ∧ Hid (∀ ad, B = some ad → w.heap.size ≤ ad.block)

theorem norm_core (y : Int) (g : Nat) (hg : 0 < g) (hd : g ∣ y.natAbs) : (y / (g : Int)).natAbs = y.natAbs / g ∧ decide (y / (g : Int) < 0) = decide (y < 0) := by
  constructor
  · rw [Int.natAbs_ediv_of_dvd (Int.natAbs_dvd_natAbs.1 (by simpa using hd))]
    simp
  · rw [decide_eq_decide]
    have := Int.ediv_nonneg_iff_of_pos (a := y) (b := (g : Int)) (by omega)
    omega
theorem norm_num (y : Int) (b : Nat) (hb : 0 < b) : (mkRat y b).num.natAbs = y.natAbs / Nat.gcd y.natAbs b ∧ (mkRat y b).den = b / Nat.gcd y.natAbs b ∧ decide ((mkRat y b).num < 0) = decide (y < 0) := by
  have hb' : b ≠ 0 := by omega
  rw [Rat.mkRat_def, dif_neg hb', Rat.normalize_eq]
  simp only
  have hg : 0 < Nat.gcd y.natAbs b := Nat.gcd_pos_of_pos_right _ hb
  have hd : Nat.gcd y.natAbs b ∣ y.natAbs := Nat.gcd_dvd_left _ _
  exact ⟨(norm_core y _ hg hd).1, trivial, (norm_core y _ hg hd).2⟩

theorem lowest_any (w : World) {L : Nat} (bl : Bool) (A : Option Addr) (n c : Nat) (y : Int) (hy : bl = decide (y < 0)) (ha : Ms w L A n c y.natAbs)
    (B : Option Addr) (m d : Nat) (b : Nat) (hb : Ms w L B m d b) (hb0 : 0 < b) (hL : L ≤ 10000000000) :
    Calls Tryz.prog 133 #[.agg #[.bool bl, .slice A n c], .slice B m d] w (RetQ w L (mkRat y b)) := by
  have hW : Below w.heap.size w ((w.alloc (.cells #[.bool bl, .slice A n c] 116)).alloc (.cells #[.bool false, .slice none 0 0, .slice none 0 0] 118)) := (((Below.refl w.heap.size w).alloc (Nat.le_refl _) _).alloc (by simp <;> omega) _)
  have o1 := heap_more (heap_last w (.cells #[.bool bl, .slice A n c] 116)) (.cells #[.bool false, .slice none 0 0, .slice none 0 0] 118)
  have O1 := Lib.hid o1
  clear o1
  have o2 := heap_last (w.alloc (.cells #[.bool bl, .slice A n c] 116)) (.cells #[.bool false, .slice none 0 0, .slice none 0 0] 118)
  rw [show (w.alloc (.cells #[.bool bl, .slice A n c] 116)).heap.size = w.heap.size + 1 by simp] at o2
  have O2 := Lib.hid o2
  clear o2
  have hsz : ((w.alloc (.cells #[.bool bl, .slice A n c] 116)).alloc (.cells #[.bool false, .slice none 0 0, .slice none 0 0] 118)).heap.size = w.heap.size + 1 + 1 := by simp
  have HSZ := Lib.hid hsz
  clear hsz
  obtain ⟨e1, e2, e3⟩ := norm_num y b hb0
  obtain ⟨q, hq⟩ : ∃ q, mkRat y b = q := ⟨_, rfl⟩
  rw [hq] at e1 e2 e3 ⊢
  have hg0 : 0 < Nat.gcd y.natAbs b := Nat.gcd_pos_of_pos_right _ hb0
  obtain ⟨g, hg⟩ : ∃ g, Nat.gcd y.natAbs b = g := ⟨_, rfl⟩
  have HG := Lib.hid hg
  rw [hg] at e1 e2 hg0
  have E1 := Lib.hid e1
  have E2 := Lib.hid e2
  have E3 : Hid (bl = decide (q.num < 0)) := by show _ = _; rw [e3]; exact hy
  clear e1 e2 e3 hq hg hy
  go_enter Tryz.func133, Tryz.ntmps133
  go_upto_region 2 with (go_at_call 168; go_must (refine (common_any _ _ _ _ _ _ _ _ _ (ha.below hW) (hb.below hW) (by omega)).mono ?_; rintro e w1 ⟨Ag, lg, cg, rfl, hgm, hb1⟩))
  rw [HG.out] at hgm
  have x1 := cell_later (j := 1) O1.out hb1
  simp at x1
  go_upto_region 3 with (go_at_call 171; go_must (refine (over_any _ _ _ _ _ _ _ _ _ ((ha.below hW).below hb1) hgm hg0 (by omega)).mono ?_; rintro e w2 ⟨A1, l1, c1, A2, l2, c2, rfl, hq1, _, hb2, hf1, _⟩))
  go_upto_region 4 with (go_at_call 171; go_must (refine (over_any _ _ _ _ _ _ _ _ _ (((hb.below hW).below hb1).below hb2) (hgm.below hb2) hg0 (by omega)).mono ?_; rintro e w3 ⟨B1, m1, d1, B2, m2, d2, rfl, hq2, _, hb3, hf2, _⟩))
  rw [← E1.out] at hq1
  rw [← E2.out] at hq2
  have hq1 := hq1.below hb3
  have HB := chain (chain hb1 hb2) hb3
  have hW3 := chain hW HB
  have hbs : w.heap.size ≤ w3.heap.size := hW3.size
  have y0 := cell_later (j := 0) O1.out HB
  have y1 := cell_later (j := 0) O2.out HB
  have y2 := cell_later (j := 1) O2.out HB
  have y3 := cell_later (j := 2) O2.out HB
  have g1 := frozen_later O2.out HB 0
  have g2 := frozen_later O2.out HB 1
  have g3 := frozen_later O2.out HB 2
  simp at y0 y1 y2 y3
  have HQ1 := Lib.hid hq1
  have HQ2 := Lib.hid hq2
  have HF1 : Hid (∀ ad, A1 = some ad → w.heap.size + 2 ≤ ad.block) := fun ad e => by have h1 := hf1.out ad e; have h2 := hb1.size; have h3 := HSZ.out; omega
  have HF2 : Hid (∀ ad, B1 = some ad → w.heap.size + 2 ≤ ad.block) := fun ad e => by have h1 := hf2.out ad e; have h2 := (chain hb1 hb2).size; have h3 := HSZ.out; omega
  clear hq1 hq2 hf1 hf2 x1 hgm ha hb
  go_wp2
  refine bodyPost_ret (v := rv bl A1 l1 c1 B1 m1 d1) (by simp [rv, results, Tryz.results133, go_sem, y1, y2, y3]) rfl ⟨_, _, _, _, _, _, _, rfl, E3, ?_, ?_, ((hW3.setCell (by simp <;> omega) _).setCell (by simp <;> omega) _).setCell (by simp <;> omega) _, Lib.hid (fun ad e => by have := HF1.out ad e; omega), Lib.hid (fun ad e => by have := HF2.out ad e; omega)⟩
  · have h : ∀ ad, A1 = some ad → 0 < l1 → ad.block ≠ w.heap.size + 1 := fun ad e _ => by have := HF1.out ad e; omega
    exact ((HQ1.out.setCell h).setCell h).setCell h
  · have h : ∀ ad, B1 = some ad → 0 < m1 → ad.block ≠ w.heap.size + 1 := fun ad e _ => by have := HF2.out ad e; omega
    exact ((HQ2.out.setCell h).setCell h).setCell h

theorem positive_any (w : World) (A : Option Addr) (n c : Nat) : Calls Tryz.prog 138 #[.slice A n c] w fun e w' => e = .returned (.agg #[.bool false, .slice A n c]) ∧ Below w.heap.size w w' := by
  go_enter Tryz.func138, Tryz.ntmps138
  go_wp2
  refine bodyPost_ret (v := .agg #[.bool false, .slice A n c]) (by simp [results, Tryz.results138, go_sem]) rfl ⟨rfl, ?_⟩
  first
    | exact (((Below.refl _ _).alloc (Nat.le_refl _) _).setCell (by simp) _).setCell (by simp) _
    | exact (Below.refl _ _).alloc (Nat.le_refl _) _

theorem fromq_any (w : World) (z : Int) (h0 : -9223372036854775808 ≤ z) (h1 : z < 9223372036854775808) :
    Calls Tryz.prog 87 #[.int .i64 z] w (RetQ w 2 (z : Rat)) := by
  have hb0 : Below w.heap.size w (w.alloc (.cells #[.bool false, .slice none 0 0, .slice none 0 0] 118)) := (Below.refl _ _).alloc (Nat.le_refl _) _
  have O1 := Lib.hid (heap_last w (.cells #[.bool false, .slice none 0 0, .slice none 0 0] 118))
  have HSZ : Hid ((w.alloc (.cells #[.bool false, .slice none 0 0, .slice none 0 0] 118)).heap.size = w.heap.size + 1) := by show _ = _; simp
  have hf1 := num_field1
  have HN : Hid ((z : Rat).num = z) := Rat.num_intCast z
  have HD : Hid ((z : Rat).den = 1) := Rat.den_intCast z
  obtain ⟨q, hq⟩ : ∃ q, (z : Rat) = q := ⟨_, rfl⟩
  rw [hq] at HN HD ⊢
  clear hq
  go_enter Tryz.func87, Tryz.ntmps87
  go_wp2_with fail
  refine (from_any _ z h0 h1).mono ?_
  rintro e w1 ⟨bl, A, n, c, rfl, hbl, hA, hb1, hfA⟩
  go_wp2_with fail
  refine (from_any _ 1 (by decide) (by decide)).mono ?_
  rintro e w2 ⟨bm, B, m, d, rfl, hbm, hB, hb2, hfB⟩
  have hb3 := chain hb1 hb2
  have y1 := cell_later (j := 0) O1.out hb3
  have y2 := cell_later (j := 1) O1.out hb3
  have y3 := cell_later (j := 2) O1.out hb3
  have g1 := frozen_later O1.out hb3 0
  have g2 := frozen_later O1.out hb3 1
  have g3 := frozen_later O1.out hb3 2
  simp at y1 y2 y3
  have hA2 := hA.below hb2
  have hW3 := chain hb0 hb3
  have hbs := hW3.size
  have e1 : (1 : Int).natAbs = 1 := rfl
  rw [e1] at hB
  rw [← HD.out] at hB
  have hnum := HN.out
  have hA3 : Ms w2 2 A n c q.num.natAbs := by rw [hnum]; exact hA2
  have HBL : Hid (bl = decide (q.num < 0)) := by show _ = _; rw [hnum]; exact hbl.out
  have HA := Lib.hid hA3
  have HB := Lib.hid hB
  clear hA2 hA3 hA hB hnum hbl hbm
  go_wp2
  refine bodyPost_ret (v := rv bl A n c B m d) (by simp [rv, results, Tryz.results87, go_sem, y1, y2, y3]) rfl ⟨_, _, _, _, _, _, _, rfl, HBL, ?_, ?_, ((hW3.setCell (by simp <;> omega) _).setCell (by simp <;> omega) _).setCell (by simp <;> omega) _, Lib.hid (fun ad e => by have h1 := hfA.out ad e; have h2 := HSZ.out; omega), Lib.hid (fun ad e => by have h1 := hfB.out ad e; have h2 := HSZ.out; have h3 := hb1.size; omega)⟩
  · have h : ∀ ad, A = some ad → 0 < n → ad.block ≠ w.heap.size := fun ad e _ => by have h1 := hfA.out ad e; have h2 := HSZ.out; omega
    exact ((HA.out.setCell h).setCell h).setCell h
  · have h : ∀ ad, B = some ad → 0 < m → ad.block ≠ w.heap.size := fun ad e _ => by have h1 := hfB.out ad e; have h2 := HSZ.out; have h3 := hb1.size; omega
    exact ((HB.out.setCell h).setCell h).setCell h

end Go.Proofs.YtkajibniibjblaaGreatDoor
