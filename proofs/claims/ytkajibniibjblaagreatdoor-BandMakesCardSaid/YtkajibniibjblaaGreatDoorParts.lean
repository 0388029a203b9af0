/-
  whole.Number: Less, Parts.
-/
import Derived.Test.YtkajibniibjblaaGreatDoorNumber2
import Derived.Deep.CutBlock
namespace Go.Proofs.YtkajibniibjblaaGreatDoor
open Go.RowKit
set_option maxRecDepth 100000

/-- A slice that does not lie in the k blocks that a call lays first. -/
def OffK (w : World) (k : Nat) (A : Option Addr) (l : Nat) : Prop := ∀ ad, A = some ad → 0 < l → ad.block < w.heap.size ∨ w.heap.size + k ≤ ad.block
theorem OffK.old {w : World} {L k : Nat} {A : Option Addr} {n c a : Nat} (h : Ms w L A n c a) : OffK w k A n := fun ad e h0 => .inl (h.old ad e h0)
theorem OffK.fresh {w w1 : World} {k l : Nat} {A : Option Addr} (hf : ∀ ad, A = some ad → w1.heap.size ≤ ad.block) (h : w.heap.size + k ≤ w1.heap.size) : OffK w k A l := fun ad e _ => .inr (Nat.le_trans h (hf ad e))
theorem OffK.ne {w : World} {k l g : Nat} {A : Option Addr} (h : OffK w k A l) (h1 : w.heap.size ≤ g) (h2 : g < w.heap.size + k) : ∀ ad, A = some ad → 0 < l → ad.block ≠ g := fun ad e h0 => by
  rcases h ad e h0 with h | h <;> omega

/-- Quotient and remainder returned. -/
def PartsR (w : World) (La Lb : Nat) (q r : Int) : Ending → World → Prop := fun e w' =>
  ∃ bl A l c B m d, e = .returned (.tuple #[.agg #[.bool bl, .slice A l c], .agg #[.bool false, .slice B m d]]) ∧ Hid (bl = decide (q < 0)) ∧ Ms w' La A l c q.natAbs ∧ Ms w' Lb B m d r.natAbs ∧ Below w.heap.size w w' ∧ Hid (∀ ad, A = some ad → w.heap.size ≤ ad.block)

/-- What stands in the two variables behind the branch. -/
def PartsS (w w1 : World) (La Lb : Nat) (q r : Int) (s6 s7 : Value) (wx : World) : Prop :=
  ∃ A l c B m d, s6 = .slice A l c ∧ s7 = .slice B m d ∧ Ms wx La A l c q.natAbs ∧ Ms wx Lb B m d r.natAbs ∧ Below w1.heap.size w1 wx ∧ OffK w 4 A l ∧ OffK w 4 B m ∧ ∀ ad, A = some ad → w.heap.size ≤ ad.block

theorem parts_core (y : Int) (b k q r : Nat) (hk : y.natAbs = k) (hdm : b * q + r = k) (hlt : r < b) :
    (¬ (y < 0 ∧ r ≠ 0) → (y / (b : Int)).natAbs = q ∧ (y % (b : Int)).natAbs = r) ∧ (y < 0 → r ≠ 0 → (y / (b : Int)).natAbs = q + 1 ∧ (y % (b : Int)).natAbs = b - r) := by
  have e : ((b : Int) * (q : Int)) = ((b * q : Nat) : Int) := by simp
  generalize b * q = p at *
  constructor
  · intro h
    by_cases h0 : y < 0
    · have h2 := (Int.ediv_emod_unique (a := y) (b := b) (r := 0) (q := -(q : Int)) (by omega)).2 ⟨by rw [Int.mul_neg, e]; omega, by omega, by omega⟩
      rw [h2.1, h2.2]
      omega
    · have h2 := (Int.ediv_emod_unique (a := y) (b := b) (r := (r : Int)) (q := (q : Int)) (by omega)).2 ⟨by rw [e]; omega, by omega, by omega⟩
      rw [h2.1, h2.2]
      omega
  · intro h0 h1
    have h2 := (Int.ediv_emod_unique (a := y) (b := b) (r := ((b - r : Nat) : Int)) (q := -((q + 1 : Nat) : Int)) (by omega)).2 ⟨by rw [Int.mul_neg, Int.natCast_add, Int.mul_add, e]; omega, by omega, by omega⟩
    rw [h2.1, h2.2]
    omega
theorem parts_rest (y : Int) (b : Nat) (hb : 0 < b) (h : ¬ (y < 0 ∧ y.natAbs % b ≠ 0)) : (y / (b : Int)).natAbs = y.natAbs / b ∧ (y % (b : Int)).natAbs = y.natAbs % b :=
  (parts_core y b _ _ _ rfl (Nat.div_add_mod _ _) (Nat.mod_lt _ hb)).1 h
theorem parts_neg (y : Int) (b : Nat) (hb : 0 < b) (h0 : y < 0) (h1 : y.natAbs % b ≠ 0) : (y / (b : Int)).natAbs = y.natAbs / b + 1 ∧ (y % (b : Int)).natAbs = b - y.natAbs % b :=
  (parts_core y b _ _ _ rfl (Nat.div_add_mod _ _) (Nat.mod_lt _ hb)).2 h0 h1
theorem parts_side (y : Int) (b : Nat) (hb : 0 < b) : decide (y / (b : Int) < 0) = decide (y < 0) := by
  rw [decide_eq_decide]
  have := Int.ediv_nonneg_iff_of_pos (a := y) (b := (b : Int)) (by omega)
  omega

theorem parts_any (w : World) {La Lb : Nat} (bl : Bool) (A : Option Addr) (n c : Nat) (y : Int) (hy : bl = decide (y < 0)) (ha : Ms w La A n c y.natAbs)
    (B : Option Addr) (m d : Nat) (b : Nat) (hb : Ms w Lb B m d b) (hb0 : 0 < b) (hL : La + Lb ≤ 10000000000) :
    Calls Tryz.prog 137 #[.agg #[.bool bl, .slice A n c], .agg #[.bool false, .slice B m d]] w (PartsR w (max La 1 + 1) Lb (y / b) (y % b)) := by
  have hW : Below w.heap.size w ((((w.alloc (.cells #[.bool bl, .slice A n c] 116)).alloc (.cells #[.bool false, .slice B m d] 116)).alloc (.cells #[.bool false, .slice none 0 0] 116)).alloc (.cells #[.bool false, .slice none 0 0] 116)) := (((((Below.refl w.heap.size w).alloc (Nat.le_refl _) _).alloc (by simp <;> omega) _).alloc (by simp <;> omega) _).alloc (by simp <;> omega) _)
  have o1 := heap_more (heap_more (heap_more (heap_last w (.cells #[.bool bl, .slice A n c] 116)) (.cells #[.bool false, .slice B m d] 116)) (.cells #[.bool false, .slice none 0 0] 116)) (.cells #[.bool false, .slice none 0 0] 116)
  have O1 := Lib.hid o1
  clear o1
  have o2 := heap_more (heap_more (heap_last (w.alloc (.cells #[.bool bl, .slice A n c] 116)) (.cells #[.bool false, .slice B m d] 116)) (.cells #[.bool false, .slice none 0 0] 116)) (.cells #[.bool false, .slice none 0 0] 116)
  rw [show (w.alloc (.cells #[.bool bl, .slice A n c] 116)).heap.size = w.heap.size + 1 by simp] at o2
  have O2 := Lib.hid o2
  clear o2
  have o3 := heap_more (heap_last ((w.alloc (.cells #[.bool bl, .slice A n c] 116)).alloc (.cells #[.bool false, .slice B m d] 116)) (.cells #[.bool false, .slice none 0 0] 116)) (.cells #[.bool false, .slice none 0 0] 116)
  rw [show ((w.alloc (.cells #[.bool bl, .slice A n c] 116)).alloc (.cells #[.bool false, .slice B m d] 116)).heap.size = w.heap.size + 1 + 1 by simp] at o3
  have O3 := Lib.hid o3
  clear o3
  have o4 := heap_last (((w.alloc (.cells #[.bool bl, .slice A n c] 116)).alloc (.cells #[.bool false, .slice B m d] 116)).alloc (.cells #[.bool false, .slice none 0 0] 116)) (.cells #[.bool false, .slice none 0 0] 116)
  rw [show (((w.alloc (.cells #[.bool bl, .slice A n c] 116)).alloc (.cells #[.bool false, .slice B m d] 116)).alloc (.cells #[.bool false, .slice none 0 0] 116)).heap.size = w.heap.size + 1 + 1 + 1 by simp] at o4
  have O4 := Lib.hid o4
  clear o4
  have hsz : ((((w.alloc (.cells #[.bool bl, .slice A n c] 116)).alloc (.cells #[.bool false, .slice B m d] 116)).alloc (.cells #[.bool false, .slice none 0 0] 116)).alloc (.cells #[.bool false, .slice none 0 0] 116)).heap.size = w.heap.size + 1 + 1 + 1 + 1 := by simp
  have HSZ := Lib.hid hsz
  clear hsz
  have HS := Lib.hid (parts_side y b hb0)
  have HY := Lib.hid hy
  have HR := Lib.hid (parts_rest y b hb0)
  have HN := Lib.hid (parts_neg y b hb0)
  clear hy
  go_enter Tryz.func137, Tryz.ntmps137
  go_upto_region 2 with (go_at_call 171; go_must (refine (over_any _ _ _ _ _ _ _ _ _ (ha.below hW) (hb.below hW) hb0 (by omega)).mono ?_; rintro e w1 ⟨A1, l1, c1, A2, l2, c2, rfl, hq, hr, hb1, hf1, hf2⟩))
  have hW1 : Below w.heap.size w w1 := chain hW hb1
  have hz1 : w.heap.size + 4 ≤ w1.heap.size := by have := hb1.size; have := HSZ.out; omega
  have hF1 : Hid (∀ ad, A1 = some ad → w.heap.size ≤ ad.block) := fun ad e => Nat.le_trans hW.size (hf1.out ad e)
  have hK1 : OffK w 4 A1 l1 := OffK.fresh hf1.out (by have := HSZ.out; omega)
  have hK2 : OffK w 4 A2 l2 := by
    rcases hf2.out with h | ⟨rfl, rfl⟩
    · exact OffK.fresh h (by have := HSZ.out; omega)
    · exact OffK.old ha
  have hbw1 := hb.below hW1
  clear hf1 hf2
  have e0 := cell_later (j := 0) O1.out hb1
  have e1 := cell_later (j := 1) O2.out hb1
  have hl2 := Lib.hid hr.len_zero
  simp at e0 e1
  have hcase : (bl = false) ∨ (bl = true ∧ l2 = 0) ∨ (bl = true ∧ 0 < l2) := by cases bl <;> simp <;> omega
  rcases hcase with rfl | ⟨rfl, rfl⟩ | ⟨rfl, hl⟩
  · have hy0 : ¬ y < 0 := by simpa using HY.out.symm
    have HV := HR.out (fun ⟨h0, _⟩ => hy0 h0)
    have HX : Hid (false = decide (y / b < 0)) := by show _ = _; rw [HS.out, ← HY.out]
    rw [← HV.1] at hq
    rw [← HV.2] at hr
    have hq := hq.mono (show La ≤ max La 1 + 1 by omega)
    have HQ := Lib.hid hq
    have HRR := Lib.hid hr
    have HK1 := Lib.hid hK1
    have HK2 := Lib.hid hK2
    have HB := hb1
    have hbs : w.heap.size ≤ w1.heap.size := hW1.size

    clear HR HN HS HY hl2 hy0 HV hq hr hK1 hK2 ha hb hbw1 e0 e1
    have z1 := cell_later (j := 0) O1.out HB
    have z2 := cell_later (j := 0) O2.out HB
    have z3 := cell_later (j := 0) O3.out HB
    have z4 := cell_later (j := 1) O3.out HB
    have z5 := cell_later (j := 0) O4.out HB
    have z6 := cell_later (j := 1) O4.out HB
    have f3 := frozen_later O3.out HB 0
    have f4 := frozen_later O3.out HB 1
    have f5 := frozen_later O4.out HB 0
    have f6 := frozen_later O4.out HB 1
    simp at z1 z2 z3 z4 z5 z6

    go_wp2
    refine bodyPost_ret (v := .tuple #[.agg #[.bool false, .slice A1 l1 c1], .agg #[.bool false, .slice A2 l2 c2]]) (by simp [results, Tryz.results137, go_sem, z3, z4, z5, z6]) rfl ⟨_, _, _, _, _, _, _, rfl, HX, ?_, ?_, (((hW1.setCell (by simp <;> omega) _).setCell (by simp <;> omega) _).setCell (by simp <;> omega) _).setCell (by simp <;> omega) _, hF1⟩
    · have h := HK1.out
      exact (((HQ.out.setCell (h.ne (by omega) (by omega))).setCell (h.ne (by omega) (by omega))).setCell (h.ne (by omega) (by omega))).setCell (h.ne (by omega) (by omega))
    · have h := HK2.out
      exact (((HRR.out.setCell (h.ne (by omega) (by omega))).setCell (h.ne (by omega) (by omega))).setCell (h.ne (by omega) (by omega))).setCell (h.ne (by omega) (by omega))

  · have hy0 : y < 0 := by simpa using HY.out.symm
    have HV := HR.out (fun ⟨_, h1⟩ => h1 (hl2.out.1 rfl))
    have HX : Hid (true = decide (y / b < 0)) := by show _ = _; rw [HS.out, ← HY.out]
    rw [← HV.1] at hq
    rw [← HV.2] at hr
    have hl1 : 0 < l1 := by
      have h1 : y / (b : Int) < 0 := by simpa using HX.out.symm
      have h2 := hq.len_zero
      omega
    have hq := hq.mono (show La ≤ max La 1 + 1 by omega)
    have HQ := Lib.hid hq
    have HRR := Lib.hid hr
    have HK1 := Lib.hid hK1
    have HK2 := Lib.hid hK2
    have HB := hb1
    have hbs : w.heap.size ≤ w1.heap.size := hW1.size

    clear HR HN HS HY hl2 hy0 HV hq hr hK1 hK2 ha hb hbw1 e0 e1
    have z1 := cell_later (j := 0) O1.out HB
    have z2 := cell_later (j := 0) O2.out HB
    have z3 := cell_later (j := 0) O3.out HB
    have z4 := cell_later (j := 1) O3.out HB
    have z5 := cell_later (j := 0) O4.out HB
    have z6 := cell_later (j := 1) O4.out HB
    have f3 := frozen_later O3.out HB 0
    have f4 := frozen_later O3.out HB 1
    have f5 := frozen_later O4.out HB 0
    have f6 := frozen_later O4.out HB 1
    simp at z1 z2 z3 z4 z5 z6

    go_wp2
    refine bodyPost_ret (v := .tuple #[.agg #[.bool true, .slice A1 l1 c1], .agg #[.bool false, .slice A2 0 c2]]) (by simp [results, Tryz.results137, go_sem, z3, z4, z5, z6]) rfl ⟨_, _, _, _, _, _, _, rfl, HX, ?_, ?_, (((hW1.setCell (by simp <;> omega) _).setCell (by simp <;> omega) _).setCell (by simp <;> omega) _).setCell (by simp <;> omega) _, hF1⟩
    · have h := HK1.out
      exact (((HQ.out.setCell (h.ne (by omega) (by omega))).setCell (h.ne (by omega) (by omega))).setCell (h.ne (by omega) (by omega))).setCell (h.ne (by omega) (by omega))
    · have h := HK2.out
      exact (((HRR.out.setCell (h.ne (by omega) (by omega))).setCell (h.ne (by omega) (by omega))).setCell (h.ne (by omega) (by omega))).setCell (h.ne (by omega) (by omega))

  · have hy0 : y < 0 := by simpa using HY.out.symm
    have hrne : y.natAbs % b ≠ 0 := fun e => by have := hl2.out.2 e; omega
    have HV := Lib.hid (HN.out hy0 hrne)
    have HX : Hid (true = decide (y / b < 0)) := by show _ = _; rw [HS.out, ← HY.out]
    have HLE : Hid (y.natAbs % b ≤ b) := Nat.le_of_lt (Nat.mod_lt _ hb0)
    clear HR HN HS HY hl2 hrne hy0
    go_upto_region 3 with fail
    go_cut [6, 7] (PartsS w w1 (max La 1 + 1) Lb (y / b) (y % b))
    case first =>
      go_region_law (first
        | (go_simp; go_at_call 174; refine (one_i _ _ 1 rfl (by omega)).mono ?_; rintro e wA ⟨Ao, lo, co, rfl, ho, hbA, hfo⟩; have hcA : Below w1.heap.size w1 wA := chain_drew (Below.refl _ _) hbA; have xA := cell_later (j := 1) O2.out (chain hb1 hcA); simp at xA)
        | (go_simp; go_at_call 173; refine (plus_any _ _ _ _ _ _ _ _ _ (hq.below hcA) ho (by omega)).mono ?_; rintro e wP ⟨AP, lP, cP, rfl, hp, hbP, hfP⟩; have hcP : Below w1.heap.size w1 wP := chain hcA hbP; have xP := cell_later (j := 1) O2.out (chain hb1 hcP); simp at xP)
        | (go_simp; go_at_call 175; refine (minus_any _ _ _ _ _ _ _ _ _ (hbw1.below hcP) (hr.below hcP) HLE.out (by omega)).mono ?_; rintro e wM ⟨AM, lM, cM, rfl, hm, hbM, hfM⟩; have hcM : Below w1.heap.size w1 wM := chain hcP hbM))
      all_goals
        go_wp2_with fail
        go_meet
        refine ⟨AP, lP, cP, AM, lM, cM, rfl, rfl, ?_, ?_, hcM, OffK.fresh hfP (Nat.le_trans hz1 hcA.size), OffK.fresh hfM (Nat.le_trans hz1 hcP.size), fun ad e => Nat.le_trans (Nat.le_trans hW1.size hcA.size) (hfP ad e)⟩
        · rw [HV.out.1]; exact hp.below hbM
        · rw [HV.out.2]; exact hm
    case rest =>
      clear hl hq hr hK1 hK2 hF1
      obtain ⟨Aq, lq, cq, Br, lr, cr, rfl, rfl, hq, hr, hc, hK1, hK2, hF⟩ := hcut
      obtain ⟨w2, rfl⟩ : ∃ w2 : World, w2 = wc := ⟨_, rfl⟩
      have hW2 : Below w.heap.size w w2 := chain hW1 hc
      have hF1 : Hid (∀ ad, Aq = some ad → w.heap.size ≤ ad.block) := hF
      have hl1 : 0 < lq := by
        have h1 : y / (b : Int) < 0 := by simpa using HX.out.symm
        have h2 := hq.len_zero
        omega
      have HQ := Lib.hid hq
      have HRR := Lib.hid hr
      have HK1 := Lib.hid hK1
      have HK2 := Lib.hid hK2
      have HB := chain hb1 hc
      have hbs : w.heap.size ≤ w2.heap.size := hW2.size
      clear hq hr hK1 hK2 ha hb hbw1 e0 e1 hF HV HLE
      have z1 := cell_later (j := 0) O1.out HB
      have z2 := cell_later (j := 0) O2.out HB
      have z3 := cell_later (j := 0) O3.out HB
      have z4 := cell_later (j := 1) O3.out HB
      have z5 := cell_later (j := 0) O4.out HB
      have z6 := cell_later (j := 1) O4.out HB
      have f3 := frozen_later O3.out HB 0
      have f4 := frozen_later O3.out HB 1
      have f5 := frozen_later O4.out HB 0
      have f6 := frozen_later O4.out HB 1
      simp at z1 z2 z3 z4 z5 z6

      go_wp2
      refine bodyPost_ret (v := .tuple #[.agg #[.bool true, .slice Aq lq cq], .agg #[.bool false, .slice Br lr cr]]) (by simp [results, Tryz.results137, go_sem, z3, z4, z5, z6]) rfl ⟨_, _, _, _, _, _, _, rfl, HX, ?_, ?_, (((hW2.setCell (by simp <;> omega) _).setCell (by simp <;> omega) _).setCell (by simp <;> omega) _).setCell (by simp <;> omega) _, hF1⟩
      · have h := HK1.out
        exact (((HQ.out.setCell (h.ne (by omega) (by omega))).setCell (h.ne (by omega) (by omega))).setCell (h.ne (by omega) (by omega))).setCell (h.ne (by omega) (by omega))
      · have h := HK2.out
        exact (((HRR.out.setCell (h.ne (by omega) (by omega))).setCell (h.ne (by omega) (by omega))).setCell (h.ne (by omega) (by omega))).setCell (h.ne (by omega) (by omega))


end Go.Proofs.YtkajibniibjblaaGreatDoor
