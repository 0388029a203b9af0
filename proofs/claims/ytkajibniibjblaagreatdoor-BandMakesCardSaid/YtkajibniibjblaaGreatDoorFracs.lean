/-
  frac: Lowest, Read, From, positive, Told.
  frac: Read, Told.
  frac: Told.
  frac: Times.
-/
import Derived.Test.YtkajibniibjblaaGreatDoorInt
namespace Go.Proofs.YtkajibniibjblaaGreatDoor
open Go.RowKit
set_option maxRecDepth 100000

/-- A Ratio as a value. -/
def rv (bl : Bool) (A : Option Addr) (l c : Nat) (B : Option Addr) (m d : Nat) : Value := .agg #[.bool bl, .slice A l c, .slice B m d]

/-- A call returned a Ratio that is q, its slices new. -/
def RetQ (w : World) (L : Nat) (q : Rat) : Ending → World → Prop := fun e w' =>
  ∃ bl A l c B m d, e = .returned (rv bl A l c B m d) ∧ Hid (bl = decide (q.num < 0)) ∧ Ms w' L A l c q.num.natAbs ∧ Ms w' L B m d q.den ∧ Below w.heap.size w w' ∧ Hid (∀ ad, A = some ad → w.heap.size ≤ ad.block) ∧ Hid (∀ ad, B = some ad → w.heap.size ≤ ad.block)

theorem norm_core (y : Int) (g : Nat) (hg : 0 < g) (hd : g ∣ y.natAbs) : (y / (g : Int)).natAbs = y.natAbs / g ∧ decide (y / (g : Int) < 0) = decide (y < 0) := by
  constructor
  · rw [Int.natAbs_ediv_of_dvd (Int.natAbs_dvd_natAbs.1 (by simpa using hd))]
    simp
  · rw [decide_eq_decide]
    have := Int.ediv_nonneg_iff_of_pos (a := y) (b := (g : Int)) (by omega)
    omega
theorem norm_num (y : Int) (b : Nat) (hb : 0 < b) : (mkRat y b).num.natAbs = y.natAbs / Nat.gcd y.natAbs b ∧ (mkRat y b).den = b / Nat.gcd y.natAbs b ∧ decide ((mkRat y b).num < 0) = decide (y < 0) := by
  have hb' : b ≠ 0 := by omega
  rw [Rat.mkRat_def, dif_neg hb', Rat.normalize_eq]
  simp only
  have hg : 0 < Nat.gcd y.natAbs b := Nat.gcd_pos_of_pos_right _ hb
  have hd : Nat.gcd y.natAbs b ∣ y.natAbs := Nat.gcd_dvd_left _ _
  exact ⟨(norm_core y _ hg hd).1, trivial, (norm_core y _ hg hd).2⟩

theorem lowest_any (w : World) {L : Nat} (bl : Bool) (A : Option Addr) (n c : Nat) (y : Int) (hy : bl = decide (y < 0)) (ha : Ms w L A n c y.natAbs)
    (B : Option Addr) (m d : Nat) (b : Nat) (hb : Ms w L B m d b) (hb0 : 0 < b) (hL : L ≤ 10000000000) :
    Calls Tryz.prog 133 #[.agg #[.bool bl, .slice A n c], .slice B m d] w (RetQ w L (mkRat y b)) := by
  have hW : Below w.heap.size w ((w.alloc (.cells #[.bool bl, .slice A n c] 116)).alloc (.cells #[.bool false, .slice none 0 0, .slice none 0 0] 118)) := (((Below.refl w.heap.size w).alloc (Nat.le_refl _) _).alloc (by simp <;> omega) _)
  have o1 := heap_more (heap_last w (.cells #[.bool bl, .slice A n c] 116)) (.cells #[.bool false, .slice none 0 0, .slice none 0 0] 118)
  have O1 := Lib.hid o1
  clear o1
  have o2 := heap_last (w.alloc (.cells #[.bool bl, .slice A n c] 116)) (.cells #[.bool false, .slice none 0 0, .slice none 0 0] 118)
  rw [show (w.alloc (.cells #[.bool bl, .slice A n c] 116)).heap.size = w.heap.size + 1 by simp] at o2
  have O2 := Lib.hid o2
  clear o2
  have hsz : ((w.alloc (.cells #[.bool bl, .slice A n c] 116)).alloc (.cells #[.bool false, .slice none 0 0, .slice none 0 0] 118)).heap.size = w.heap.size + 1 + 1 := by simp
  have HSZ := Lib.hid hsz
  clear hsz
  obtain ⟨e1, e2, e3⟩ := norm_num y b hb0
  obtain ⟨q, hq⟩ : ∃ q, mkRat y b = q := ⟨_, rfl⟩
  rw [hq] at e1 e2 e3 ⊢
  have hg0 : 0 < Nat.gcd y.natAbs b := Nat.gcd_pos_of_pos_right _ hb0
  obtain ⟨g, hg⟩ : ∃ g, Nat.gcd y.natAbs b = g := ⟨_, rfl⟩
  have HG := Lib.hid hg
  rw [hg] at e1 e2 hg0
  have E1 := Lib.hid e1
  have E2 := Lib.hid e2
  have E3 : Hid (bl = decide (q.num < 0)) := by show _ = _; rw [e3]; exact hy
  clear e1 e2 e3 hq hg hy
  go_enter Tryz.func133, Tryz.ntmps133
  go_upto_region 2 with (go_at_call 168; go_must (refine (common_any _ _ _ _ _ _ _ _ _ (ha.below hW) (hb.below hW) (by omega)).mono ?_; rintro e w1 ⟨Ag, lg, cg, rfl, hgm, hb1⟩))
  rw [HG.out] at hgm
  have x1 := cell_later (j := 1) O1.out hb1
  simp at x1
  go_upto_region 3 with (go_at_call 171; go_must (refine (over_any _ _ _ _ _ _ _ _ _ ((ha.below hW).below hb1) hgm hg0 (by omega)).mono ?_; rintro e w2 ⟨A1, l1, c1, A2, l2, c2, rfl, hq1, _, hb2, hf1, _⟩))
  go_upto_region 4 with (go_at_call 171; go_must (refine (over_any _ _ _ _ _ _ _ _ _ (((hb.below hW).below hb1).below hb2) (hgm.below hb2) hg0 (by omega)).mono ?_; rintro e w3 ⟨B1, m1, d1, B2, m2, d2, rfl, hq2, _, hb3, hf2, _⟩))
  rw [← E1.out] at hq1
  rw [← E2.out] at hq2
  have hq1 := hq1.below hb3
  have HB := chain (chain hb1 hb2) hb3
  have hW3 := chain hW HB
  have hbs : w.heap.size ≤ w3.heap.size := hW3.size
  have y0 := cell_later (j := 0) O1.out HB
  have y1 := cell_later (j := 0) O2.out HB
  have y2 := cell_later (j := 1) O2.out HB
  have y3 := cell_later (j := 2) O2.out HB
  have g1 := frozen_later O2.out HB 0
  have g2 := frozen_later O2.out HB 1
  have g3 := frozen_later O2.out HB 2
  simp at y0 y1 y2 y3
  have HQ1 := Lib.hid hq1
  have HQ2 := Lib.hid hq2
  have HF1 : Hid (∀ ad, A1 = some ad → w.heap.size + 2 ≤ ad.block) := fun ad e => by have h1 := hf1.out ad e; have h2 := hb1.size; have h3 := HSZ.out; omega
  have HF2 : Hid (∀ ad, B1 = some ad → w.heap.size + 2 ≤ ad.block) := fun ad e => by have h1 := hf2.out ad e; have h2 := (chain hb1 hb2).size; have h3 := HSZ.out; omega
  clear hq1 hq2 hf1 hf2 x1 hgm ha hb
  go_wp2
  refine bodyPost_ret (v := rv bl A1 l1 c1 B1 m1 d1) (by simp [rv, results, Tryz.results133, go_sem, y1, y2, y3]) rfl ⟨_, _, _, _, _, _, _, rfl, E3, ?_, ?_, ((hW3.setCell (by simp <;> omega) _).setCell (by simp <;> omega) _).setCell (by simp <;> omega) _, Lib.hid (fun ad e => by have := HF1.out ad e; omega), Lib.hid (fun ad e => by have := HF2.out ad e; omega)⟩
  · have h : ∀ ad, A1 = some ad → 0 < l1 → ad.block ≠ w.heap.size + 1 := fun ad e _ => by have := HF1.out ad e; omega
    exact ((HQ1.out.setCell h).setCell h).setCell h
  · have h : ∀ ad, B1 = some ad → 0 < m1 → ad.block ≠ w.heap.size + 1 := fun ad e _ => by have := HF2.out ad e; omega
    exact ((HQ2.out.setCell h).setCell h).setCell h

theorem positive_any (w : World) (A : Option Addr) (n c : Nat) : Calls Tryz.prog 138 #[.slice A n c] w fun e w' => e = .returned (.agg #[.bool false, .slice A n c]) ∧ Below w.heap.size w w' := by
  go_enter Tryz.func138, Tryz.ntmps138
  go_wp2
  refine bodyPost_ret (v := .agg #[.bool false, .slice A n c]) (by simp [results, Tryz.results138, go_sem]) rfl ⟨rfl, ?_⟩
  first
    | exact (((Below.refl _ _).alloc (Nat.le_refl _) _).setCell (by simp) _).setCell (by simp) _
    | exact (Below.refl _ _).alloc (Nat.le_refl _) _

theorem fromq_any (w : World) (z : Int) (h0 : -9223372036854775808 ≤ z) (h1 : z < 9223372036854775808) :
    Calls Tryz.prog 87 #[.int .i64 z] w (RetQ w 2 (z : Rat)) := by
  have hb0 : Below w.heap.size w (w.alloc (.cells #[.bool false, .slice none 0 0, .slice none 0 0] 118)) := (Below.refl _ _).alloc (Nat.le_refl _) _
  have O1 := Lib.hid (heap_last w (.cells #[.bool false, .slice none 0 0, .slice none 0 0] 118))
  have HSZ : Hid ((w.alloc (.cells #[.bool false, .slice none 0 0, .slice none 0 0] 118)).heap.size = w.heap.size + 1) := by show _ = _; simp
  have hf1 := num_field1
  have HN : Hid ((z : Rat).num = z) := Rat.num_intCast z
  have HD : Hid ((z : Rat).den = 1) := Rat.den_intCast z
  obtain ⟨q, hq⟩ : ∃ q, (z : Rat) = q := ⟨_, rfl⟩
  rw [hq] at HN HD ⊢
  clear hq
  go_enter Tryz.func87, Tryz.ntmps87
  go_wp2_with fail
  refine (from_any _ z h0 h1).mono ?_
  rintro e w1 ⟨bl, A, n, c, rfl, hbl, hA, hb1, hfA⟩
  go_wp2_with fail
  refine (from_any _ 1 (by decide) (by decide)).mono ?_
  rintro e w2 ⟨bm, B, m, d, rfl, hbm, hB, hb2, hfB⟩
  have hb3 := chain hb1 hb2
  have y1 := cell_later (j := 0) O1.out hb3
  have y2 := cell_later (j := 1) O1.out hb3
  have y3 := cell_later (j := 2) O1.out hb3
  have g1 := frozen_later O1.out hb3 0
  have g2 := frozen_later O1.out hb3 1
  have g3 := frozen_later O1.out hb3 2
  simp at y1 y2 y3
  have hA2 := hA.below hb2
  have hW3 := chain hb0 hb3
  have hbs := hW3.size
  have e1 : (1 : Int).natAbs = 1 := rfl
  rw [e1] at hB
  rw [← HD.out] at hB
  have hnum := HN.out
  have hA3 : Ms w2 2 A n c q.num.natAbs := by rw [hnum]; exact hA2
  have HBL : Hid (bl = decide (q.num < 0)) := by show _ = _; rw [hnum]; exact hbl.out
  have HA := Lib.hid hA3
  have HB := Lib.hid hB
  clear hA2 hA3 hA hB hnum hbl hbm
  go_wp2
  refine bodyPost_ret (v := rv bl A n c B m d) (by simp [rv, results, Tryz.results87, go_sem, y1, y2, y3]) rfl ⟨_, _, _, _, _, _, _, rfl, HBL, ?_, ?_, ((hW3.setCell (by simp <;> omega) _).setCell (by simp <;> omega) _).setCell (by simp <;> omega) _, Lib.hid (fun ad e => by have h1 := hfA.out ad e; have h2 := HSZ.out; omega), Lib.hid (fun ad e => by have h1 := hfB.out ad e; have h2 := HSZ.out; have h3 := hb1.size; omega)⟩
  · have h : ∀ ad, A = some ad → 0 < n → ad.block ≠ w.heap.size := fun ad e _ => by have h1 := hfA.out ad e; have h2 := HSZ.out; omega
    exact ((HA.out.setCell h).setCell h).setCell h
  · have h : ∀ ad, B = some ad → 0 < m → ad.block ≠ w.heap.size := fun ad e _ => by have h1 := hfB.out ad e; have h2 := HSZ.out; have h3 := hb1.size; omega
    exact ((HB.out.setCell h).setCell h).setCell h

end Go.Proofs.YtkajibniibjblaaGreatDoor

namespace Go.Proofs.YtkajibniibjblaaGreatDoor
open Go.RowKit
set_option maxRecDepth 100000

/-- The two texts of a fraction in lowest terms. -/
structure VQ (N D : ByteArray) (q : Rat) : Prop where
  num : VW N q.num
  den : VW D (q.den : Int)

theorem undrewS {w w' : World} (h : Below w.drew.heap.size w.drew w') : Below w.heap.size w w' := undrew h

theorem readq_any (w : World) (N D : ByteArray) (q : Rat) (h : VQ N D q) :
    Calls Tryz.prog 85 #[.agg #[.string N, .string D]] w (RetQ w 40 q) := by
  have hW : Below w.heap.size w ((w.alloc (.cells #[.string N, .string D] 51)).alloc (.cells #[.bool false, .slice none 0 0, .slice none 0 0] 118)) := (((Below.refl w.heap.size w).alloc (Nat.le_refl _) _).alloc (by simp <;> omega) _)
  have o1 := heap_more (heap_last w (.cells #[.string N, .string D] 51)) (.cells #[.bool false, .slice none 0 0, .slice none 0 0] 118)
  have O1 := Lib.hid o1
  clear o1
  have o2 := heap_last (w.alloc (.cells #[.string N, .string D] 51)) (.cells #[.bool false, .slice none 0 0, .slice none 0 0] 118)
  rw [show (w.alloc (.cells #[.string N, .string D] 51)).heap.size = w.heap.size + 1 by simp] at o2
  have O2 := Lib.hid o2
  clear o2
  have hsz : ((w.alloc (.cells #[.string N, .string D] 51)).alloc (.cells #[.bool false, .slice none 0 0, .slice none 0 0] 118)).heap.size = w.heap.size + 1 + 1 := by simp
  have HSZ := Lib.hid hsz
  clear hsz
  have hf1 := num_field1
  obtain ⟨hN, hD⟩ := h
  go_enter Tryz.func85, Tryz.ntmps85
  go_wp2_with fail
  go_region_law (go_simp; go_at_call 132; refine (read_vw _ (by first | exact hN | exact hD)).mono ?_; rintro e w1 ⟨bl, A, n, c, rfl, hbl, hA, hb1, hfA⟩; first
    | (have hb3 := chain hbF hb1; have y1 := cell_later (j := 0) O2.out hb3; have y2 := cell_later (j := 1) O2.out hb3; have y3 := cell_later (j := 2) O2.out hb3; have g1 := frozen_later O2.out hb3 0; have g2 := frozen_later O2.out hb3 1; have g3 := frozen_later O2.out hb3 2; simp at y1 y2 y3)
    | (have hbF := undrewS hb1; have x2 := cell_later (j := 1) O1.out hbF; simp at x2; obtain ⟨wN, rfl⟩ : ∃ x : World, x = w1 := ⟨_, rfl⟩; obtain ⟨bN, rfl⟩ : ∃ x : Bool, x = bl := ⟨_, rfl⟩; obtain ⟨AN, rfl⟩ : ∃ x : Option Addr, x = A := ⟨_, rfl⟩; obtain ⟨nN, rfl⟩ : ∃ x : Nat, x = n := ⟨_, rfl⟩; obtain ⟨cN, rfl⟩ : ∃ x : Nat, x = c := ⟨_, rfl⟩; have hblN := hbl; have hAN := hA; have hfN := hfA))
  all_goals (
    have hW3 := chain hW hb3
    have hbs := hW3.size
    have hA3 := hAN.below hb1
    rw [Int.natAbs_natCast] at hA
    have HA := Lib.hid hA3
    have HB := Lib.hid hA
    have HF1 : Hid (∀ ad, AN = some ad → w.heap.size + 2 ≤ ad.block) := fun ad e => by have h1 := hfN.out ad e; have h2 := HSZ.out; simp at h1; omega
    have HF2 : Hid (∀ ad, A = some ad → w.heap.size + 2 ≤ ad.block) := fun ad e => by have h1 := hfA.out ad e; have h2 := HSZ.out; have h3 := hbF.size; omega
    clear hA3 hA hfN hfA hAN
    go_wp2_with fail
    refine bodyPost_ret (v := rv bN AN nN cN A n c) (by simp [rv, results, Tryz.results85, go_sem, y1, y2, y3]) rfl ⟨_, _, _, _, _, _, _, rfl, hblN, ?_, ?_, ((hW3.setCell (by simp <;> omega) _).setCell (by simp <;> omega) _).setCell (by simp <;> omega) _, Lib.hid (fun ad e => by have h1 := HF1.out ad e; omega), Lib.hid (fun ad e => by have h1 := HF2.out ad e; omega)⟩
    · have h : ∀ ad, AN = some ad → 0 < nN → ad.block ≠ w.heap.size + 1 := fun ad e _ => by have h1 := HF1.out ad e; omega
      exact ((HA.out.setCell h).setCell h).setCell h
    · have h : ∀ ad, A = some ad → 0 < n → ad.block ≠ w.heap.size + 1 := fun ad e _ => by have h1 := HF2.out ad e; omega
      exact ((HB.out.setCell h).setCell h).setCell h)

end Go.Proofs.YtkajibniibjblaaGreatDoor

namespace Go.Proofs.YtkajibniibjblaaGreatDoor
open Go.RowKit
set_option maxRecDepth 100000

def fitsQ (q : Rat) : Bool := fits q.num && fits (q.den : Int)
def toldQ (q : Rat) : Value := if fitsQ q then .agg #[.string (toldS q.num), .string (toldS (q.den : Int))] else .agg #[.string ⟨#[]⟩, .string ⟨#[]⟩]
def toldQE (q : Rat) : Int := if fitsQ q then 0 else 6

theorem toldq_any (w : World) (henv : Env w) {L : Nat} (bl : Bool) (A : Option Addr) (n c : Nat) (B : Option Addr) (m d : Nat) (q : Rat) (hbl : Hid (bl = decide (q.num < 0))) (ha : Ms w L A n c q.num.natAbs) (hb : Ms w L B m d q.den) (hL : L ≤ 1000000000000) :
    Calls Tryz.prog 106 #[.agg #[.bool bl, .slice A n c, .slice B m d]] w fun e w' => e = .returned (.tuple #[toldQ q, .int .i64 (toldQE q)]) ∧ Below w.heap.size w w' := by
  have hW : Below w.heap.size w ((w.alloc (.cells #[.bool bl, .slice A n c, .slice B m d] 118)).alloc (.cells #[.string ⟨#[]⟩, .string ⟨#[]⟩] 51)) := (((Below.refl w.heap.size w).alloc (Nat.le_refl _) _).alloc (by simp <;> omega) _)
  have o1 := heap_more (heap_last w (.cells #[.bool bl, .slice A n c, .slice B m d] 118)) (.cells #[.string ⟨#[]⟩, .string ⟨#[]⟩] 51)
  have O1 := Lib.hid o1
  clear o1
  have o2 := heap_last (w.alloc (.cells #[.bool bl, .slice A n c, .slice B m d] 118)) (.cells #[.string ⟨#[]⟩, .string ⟨#[]⟩] 51)
  rw [show (w.alloc (.cells #[.bool bl, .slice A n c, .slice B m d] 118)).heap.size = w.heap.size + 1 by simp] at o2
  have O2 := Lib.hid o2
  clear o2
  have hsz : ((w.alloc (.cells #[.bool bl, .slice A n c, .slice B m d] 118)).alloc (.cells #[.string ⟨#[]⟩, .string ⟨#[]⟩] 51)).heap.size = w.heap.size + 1 + 1 := by simp
  have HSZ := Lib.hid hsz
  clear hsz
  by_cases h1 : fits q.num = true
  · have he1 : toldE q.num = 0 := by rw [toldE, if_pos h1]
    by_cases h2 : fits (q.den : Int) = true
    · have he2 : toldE (q.den : Int) = 0 := by rw [toldE, if_pos h2]
      have HT : Hid (Value.tuple #[toldQ q, .int .i64 (toldQE q)] = .tuple #[.agg #[.string (toldS q.num), .string (toldS (q.den : Int))], .int .i64 0]) := by
        show _ = _; rw [toldQ, toldQE, fitsQ, h1, h2]; rfl
      clear h1 h2
      go_enter Tryz.func106, Tryz.ntmps106
      go_wp2_with fail
      refine (told_any _ (henv.below hW) _ _ _ q.num _ hbl.out (ha.below hW) hL).mono ?_
      rintro e w1 ⟨rfl, hb1⟩
      rw [he1]
      have x2 := cell_later (j := 2) O1.out hb1
      simp at x2
      go_wp2_with fail
      refine (positive_any _ _ _ _).mono ?_
      rintro e w2 ⟨rfl, hb2⟩
      go_wp2_with fail
      refine (told_any _ (((henv.below hW).below hb1).below hb2) _ _ _ (q.den : Int) _ (gcd_side rfl) (by rw [Int.natAbs_natCast]; exact ((hb.below hW).below hb1).below hb2) hL).mono ?_
      rintro e w3 ⟨rfl, hb3⟩
      rw [he2]
      have HB := chain (chain hb1 hb2) hb3
      have hW3 := chain hW HB
      have hbs := hW3.size
      have y1 := cell_later (j := 0) O2.out HB
      have y2 := cell_later (j := 1) O2.out HB
      have g1 := frozen_later O2.out HB 0
      have g2 := frozen_later O2.out HB 1
      simp at y1 y2
      go_wp2
      refine bodyPost_ret (v := .tuple #[.agg #[.string (toldS q.num), .string (toldS (q.den : Int))], .int .i64 0]) (by simp [results, Tryz.results106, go_sem, y1, y2]) rfl ⟨by rw [HT.out], (hW3.setCell (by simp <;> omega) _).setCell (by simp <;> omega) _⟩

    · have he2 : toldE (q.den : Int) = 6 := by rw [toldE, if_neg h2]
      have HT : Hid (Value.tuple #[toldQ q, .int .i64 (toldQE q)] = .tuple #[.agg #[.string ⟨#[]⟩, .string ⟨#[]⟩], .int .i64 6]) := by
        show _ = _; rw [toldQ, toldQE, fitsQ]; simp [h2]
      clear h1 h2
      go_enter Tryz.func106, Tryz.ntmps106
      go_wp2_with fail
      refine (told_any _ (henv.below hW) _ _ _ q.num _ hbl.out (ha.below hW) hL).mono ?_
      rintro e w1 ⟨rfl, hb1⟩
      rw [he1]
      have x2 := cell_later (j := 2) O1.out hb1
      simp at x2
      go_wp2_with fail
      refine (positive_any _ _ _ _).mono ?_
      rintro e w2 ⟨rfl, hb2⟩
      go_wp2_with fail
      refine (told_any _ (((henv.below hW).below hb1).below hb2) _ _ _ (q.den : Int) _ (gcd_side rfl) (by rw [Int.natAbs_natCast]; exact ((hb.below hW).below hb1).below hb2) hL).mono ?_
      rintro e w3 ⟨rfl, hb3⟩
      rw [he2]
      have HB := chain (chain hb1 hb2) hb3
      have hW3 := chain hW HB
      have hbs := hW3.size
      have y1 := cell_later (j := 0) O2.out HB
      have y2 := cell_later (j := 1) O2.out HB
      have g1 := frozen_later O2.out HB 0
      have g2 := frozen_later O2.out HB 1
      simp at y1 y2
      go_wp2
      refine bodyPost_ret (v := .tuple #[.agg #[.string ⟨#[]⟩, .string ⟨#[]⟩], .int .i64 6]) (by simp [results, Tryz.results106, go_sem, y1, y2]) rfl ⟨by rw [HT.out], (hW3.setCell (by simp <;> omega) _).setCell (by simp <;> omega) _⟩

  · have he1 : toldE q.num = 6 := by rw [toldE, if_neg h1]
    have HT : Hid (Value.tuple #[toldQ q, .int .i64 (toldQE q)] = .tuple #[.agg #[.string ⟨#[]⟩, .string ⟨#[]⟩], .int .i64 6]) := by
      show _ = _; rw [toldQ, toldQE, fitsQ]; simp [h1]
    clear h1
    go_enter Tryz.func106, Tryz.ntmps106
    go_wp2_with fail
    refine (told_any _ (henv.below hW) _ _ _ q.num _ hbl.out (ha.below hW) hL).mono ?_
    rintro e w1 ⟨rfl, hb1⟩
    rw [he1]
    have x2 := cell_later (j := 2) O1.out hb1
    simp at x2
    go_wp2_with fail
    refine (positive_any _ _ _ _).mono ?_
    rintro e w2 ⟨rfl, hb2⟩
    go_wp2_with fail
    refine (told_any _ (((henv.below hW).below hb1).below hb2) _ _ _ (q.den : Int) _ (gcd_side rfl) (by rw [Int.natAbs_natCast]; exact ((hb.below hW).below hb1).below hb2) hL).mono ?_
    rintro e w3 ⟨rfl, hb3⟩
    skip
    have HB := chain (chain hb1 hb2) hb3
    have hW3 := chain hW HB
    have hbs := hW3.size
    have y1 := cell_later (j := 0) O2.out HB
    have y2 := cell_later (j := 1) O2.out HB
    have g1 := frozen_later O2.out HB 0
    have g2 := frozen_later O2.out HB 1
    simp at y1 y2
    go_wp2
    refine bodyPost_ret (v := .tuple #[.agg #[.string ⟨#[]⟩, .string ⟨#[]⟩], .int .i64 6]) (by simp [results, Tryz.results106, go_sem, y1, y2]) rfl ⟨by rw [HT.out], (hW3.setCell (by simp <;> omega) _).setCell (by simp <;> omega) _⟩

end Go.Proofs.YtkajibniibjblaaGreatDoor

namespace Go.Proofs.YtkajibniibjblaaGreatDoor
open Go.RowKit
set_option maxRecDepth 100000

theorem rat_mul (q r : Rat) : mkRat (q.num * r.num) (q.den * r.den) = q * r := by
  rw [Rat.mul_def, Rat.mkRat_def, dif_neg (Nat.mul_ne_zero q.den_nz r.den_nz)]

set_option maxHeartbeats 4000000 in
theorem timesq_any (w : World) {La Lb : Nat} (bl : Bool) (A : Option Addr) (n c : Nat) (B : Option Addr) (m d : Nat) (q : Rat) (hbl : Hid (bl = decide (q.num < 0))) (ha : Ms w La A n c q.num.natAbs) (hb : Ms w La B m d q.den)
    (bm : Bool) (A' : Option Addr) (n' c' : Nat) (B' : Option Addr) (m' d' : Nat) (r : Rat) (hbm : Hid (bm = decide (r.num < 0))) (ha' : Ms w Lb A' n' c' r.num.natAbs) (hb' : Ms w Lb B' m' d' r.den) (hL : La + Lb ≤ 10000000000) :
    Calls Tryz.prog 86 #[.agg #[.bool bl, .slice A n c, .slice B m d], .agg #[.bool bm, .slice A' n' c', .slice B' m' d']] w (RetQ w (La + Lb) (q * r)) := by
  have hq0 : 0 < q.den * r.den := Nat.mul_pos q.den_pos r.den_pos
  rw [← rat_mul]
  have hW : Below w.heap.size w (((w.alloc (.cells #[.bool bl, .slice A n c, .slice B m d] 118)).alloc (.cells #[.bool bm, .slice A' n' c', .slice B' m' d'] 118)).alloc (.cells #[.bool false, .slice none 0 0, .slice none 0 0] 118)) := ((((Below.refl w.heap.size w).alloc (Nat.le_refl _) _).alloc (by simp <;> omega) _).alloc (by simp <;> omega) _)
  have o1 := heap_more (heap_more (heap_last w (.cells #[.bool bl, .slice A n c, .slice B m d] 118)) (.cells #[.bool bm, .slice A' n' c', .slice B' m' d'] 118)) (.cells #[.bool false, .slice none 0 0, .slice none 0 0] 118)
  have O1 := Lib.hid o1
  clear o1
  have o2 := heap_more (heap_last (w.alloc (.cells #[.bool bl, .slice A n c, .slice B m d] 118)) (.cells #[.bool bm, .slice A' n' c', .slice B' m' d'] 118)) (.cells #[.bool false, .slice none 0 0, .slice none 0 0] 118)
  rw [show (w.alloc (.cells #[.bool bl, .slice A n c, .slice B m d] 118)).heap.size = w.heap.size + 1 by simp] at o2
  have O2 := Lib.hid o2
  clear o2
  have o3 := heap_last ((w.alloc (.cells #[.bool bl, .slice A n c, .slice B m d] 118)).alloc (.cells #[.bool bm, .slice A' n' c', .slice B' m' d'] 118)) (.cells #[.bool false, .slice none 0 0, .slice none 0 0] 118)
  rw [show ((w.alloc (.cells #[.bool bl, .slice A n c, .slice B m d] 118)).alloc (.cells #[.bool bm, .slice A' n' c', .slice B' m' d'] 118)).heap.size = w.heap.size + 1 + 1 by simp] at o3
  have O3 := Lib.hid o3
  clear o3
  have hsz : (((w.alloc (.cells #[.bool bl, .slice A n c, .slice B m d] 118)).alloc (.cells #[.bool bm, .slice A' n' c', .slice B' m' d'] 118)).alloc (.cells #[.bool false, .slice none 0 0, .slice none 0 0] 118)).heap.size = w.heap.size + 1 + 1 + 1 := by simp
  have HSZ := Lib.hid hsz
  clear hsz
  have ha1 := ha.below hW.drew
  have hb1 := hb.below hW
  have ha2 := ha'.below hW.drew
  have hb2 := hb'.below hW
  go_enter Tryz.func86, Tryz.ntmps86
  go_wp2_with fail
  go_region_law (first
    | (go_simp; go_at_call 134; refine (product_any _ _ _ _ _ _ hbl.out ha1 _ _ _ _ _ hbm.out ha2 (by omega)).mono ?_; rintro e wP ⟨bP, AP, lP, cP, rfl, hbP, hP, hbeP, hfP⟩; have hcP := undrewS hbeP; have x1 := cell_later (j := 2) O1.out hcP; have x2 := cell_later (j := 2) O2.out hcP; simp at x1 x2)
    | (go_simp; go_at_call 135; refine (times_any _ _ _ _ _ _ _ _ _ (hb1.below hcP) (hb2.below hcP) (by omega)).mono ?_; rintro e wT ⟨AT, lT, cT, rfl, hT, hbT, hfT⟩)
    | (go_simp; go_at_call 133; refine (lowest_any _ _ _ _ _ _ hbP.out (hP.below hbT) _ _ _ _ hT hq0 (by omega)).mono ?_; rintro e wL ⟨bL, AL, lL, cL, BL, mL, dL, rfl, hbL, hL1, hL2, hbeL, hfL1, hfL2⟩; unfold rv; have HB := chain (chain hcP hbT) hbeL; have y1 := cell_later (j := 0) O3.out HB; have y2 := cell_later (j := 1) O3.out HB; have y3 := cell_later (j := 2) O3.out HB; have g1 := frozen_later O3.out HB 0; have g2 := frozen_later O3.out HB 1; have g3 := frozen_later O3.out HB 2; simp at y1 y2 y3))
  all_goals (
    have hW3 := chain hW HB
    have hbs := hW3.size
    have HA := Lib.hid hL1
    have HBB := Lib.hid hL2
    have HF1 : Hid (∀ ad, AL = some ad → w.heap.size + 3 ≤ ad.block) := fun ad e => by have h1 := hfL1.out ad e; have h2 := HSZ.out; have h3 := (chain hcP hbT).size; omega
    have HF2 : Hid (∀ ad, BL = some ad → w.heap.size + 3 ≤ ad.block) := fun ad e => by have h1 := hfL2.out ad e; have h2 := HSZ.out; have h3 := (chain hcP hbT).size; omega
    clear hL1 hL2 hfL1 hfL2
    go_wp2_with fail
    refine bodyPost_ret (v := rv bL AL lL cL BL mL dL) (by simp [rv, results, Tryz.results86, go_sem, y1, y2, y3]) rfl ⟨_, _, _, _, _, _, _, rfl, hbL, ?_, ?_, ((hW3.setCell (by simp <;> omega) _).setCell (by simp <;> omega) _).setCell (by simp <;> omega) _, Lib.hid (fun ad e => by have h1 := HF1.out ad e; omega), Lib.hid (fun ad e => by have h1 := HF2.out ad e; omega)⟩
    · have h : ∀ ad, AL = some ad → 0 < lL → ad.block ≠ w.heap.size + 1 + 1 := fun ad e _ => by have h1 := HF1.out ad e; omega
      exact ((HA.out.setCell h).setCell h).setCell h
    · have h : ∀ ad, BL = some ad → 0 < mL → ad.block ≠ w.heap.size + 1 + 1 := fun ad e _ => by have h1 := HF2.out ad e; omega
      exact ((HBB.out.setCell h).setCell h).setCell h)

end Go.Proofs.YtkajibniibjblaaGreatDoor
