/-
  The reference's numbers: made, Turn, Plus, Minus, Times, Order.
  The reference's numbers: parts.
  The reference's numbers: parts.
  The reference's numbers: parts, the main case; Divisor.
-/
import Derived.Test.YtkajibniibjblaaGreatDoorRef1
import Derived.Deep.RegionLaw
import Derived.Test.YtkajibniibjblaaGreatDoorBandA
import Derived.Test.YtkajibniibjblaaGreatDoorNumber
import Derived.Deep.DeepMust
import Derived.IntWalk
namespace Go.Proofs.YtkajibniibjblaaGreatDoor.P4
open Go.RowKit
set_option maxRecDepth 100000

theorem Ms.len_zero {w : World} {L : Nat} {A : Option Addr} {n c a : Nat} (h : Ms w L A n c a) : n = 0 ↔ a = 0 := by
  obtain ⟨_, xs, hx, nx⟩ := h
  rw [nx.zero_iff, ← hx.len]
  exact List.length_eq_zero_iff
/-- A number's block is none that bears something other than integers in its first two cells. -/
theorem Ms.off {w : World} {L : Nat} {A : Option Addr} {l c n g : Nat} {v0 v1 : Value} {T : TypeId} (h : Ms w L A l c n) (hg : w.heap[g]? = some (.cells #[v0, v1] T (0, 0))) (h0 : ∀ d, v0 ≠ .int .i64 d) (h1 : ∀ d, v1 ≠ .int .i64 d) : ∀ ad, A = some ad → 0 < l → ad.block ≠ g := by
  intro ad e hl hbl
  obtain ⟨_, xs, hx, _⟩ := h
  obtain ⟨b, off, d, e', _, _, hc⟩ := hx.get hl
  rw [e] at e'
  injection e' with e'
  subst e'
  simp only at hbl
  subst hbl
  have := cell_later (j := off + 0) hg (Below.refl _ _)
  rw [hc] at this
  rcases off with _ | _ | off
  · simp at this; exact h0 d this.symm
  · simp at this; exact h1 d this.symm
  · simp at this

/-- A call returned the number z. -/
def RetP (w : World) (L : Nat) (z : Int) : Ending → World → Prop := fun e w' =>
  ∃ bl A l c, e = .returned (.agg #[.bool bl, .slice A l c]) ∧ Hid (bl = decide (z < 0)) ∧ Ms w' L A l c z.natAbs ∧ Below w.heap.size w w'

theorem made_any (w : World) {L : Nat} (bl : Bool) (A : Option Addr) (n c a : Nat) (z : Int) (ha : Ds w L A n c a) (hz : z.natAbs = a) (hb : a ≠ 0 → bl = decide (z < 0)) :
    Calls Tryz.prog 122 #[.bool bl, .slice A n c] w (RetP w L z) := by
  obtain ⟨hla, xs, hx, dx, vx⟩ := ha
  have hW : Below w.heap.size w (w.alloc (.cells #[.bool false, .slice none 0 0] 102)) := ((Below.refl w.heap.size w).alloc (Nat.le_refl _) _)
  have o1 := heap_last w (.cells #[.bool false, .slice none 0 0] 102)
  have O1 := Lib.hid o1
  clear o1
  have hsz : (w.alloc (.cells #[.bool false, .slice none 0 0] 102)).heap.size = w.heap.size + 1 := by simp
  have HSZ := Lib.hid hsz
  clear hsz
  have hx1 := hx.below hW
  have hms : Ms w L A (tl xs).length c a := ⟨by have := tl_length xs; have := hx.len; omega, _, hx.tl_, Nm.of_dig dx vx⟩
  have hal : ∀ o, Below w.heap.size w (w.alloc o) := fun o => (Below.refl _ _).alloc (Nat.le_refl _) _
  subst hz
  have HMS := Lib.hid hms
  have hl0 := hms.len_zero
  clear hms
  obtain ⟨l, hl⟩ : ∃ l, (tl xs).length = l := ⟨_, rfl⟩
  have HL := Lib.hid hl
  rw [hl] at HMS hl0
  clear hl
  cases bl with
  | false =>
    have HB : Hid (false = decide (z < 0)) := by
      show false = _
      rcases Nat.eq_zero_or_pos z.natAbs with h | h
      · rw [show z = 0 by omega]; rfl
      · exact hb (by omega)
    clear hb
    go_enter Tryz.func122, Tryz.ntmps122
    go_wp2_with (go_at_call 158; refine (cut_any _ _ _ _ _ hx1).mono ?_; rintro e w' ⟨rfl, rfl⟩; rw [HL.out])
    refine bodyPost_ret (v := .agg #[.bool false, .slice A l c]) (by simp [results, Tryz.results122, go_sem]) rfl ⟨_, _, _, _, rfl, HB, HMS.out.below (hal _), hal _⟩
  | true =>
    have HB : Hid (decide (0 < l) = decide (z < 0)) := by
      show _ = decide (z < 0)
      rcases Nat.eq_zero_or_pos z.natAbs with h | h
      · rw [hl0.2 h, show z = 0 by omega]; rfl
      · rw [← hb (by omega)]
        have : 0 < l := Nat.pos_of_ne_zero fun e => by have := hl0.1 e; omega
        simp [this]
    clear hb
    go_enter Tryz.func122, Tryz.ntmps122
    go_wp2_with (go_at_call 158; refine (cut_any _ _ _ _ _ hx1).mono ?_; rintro e w' ⟨rfl, rfl⟩; rw [HL.out])
    refine bodyPost_ret (v := .agg #[.bool (decide (0 < l)), .slice A l c]) (by simp [results, Tryz.results122, go_sem]) rfl ⟨_, _, _, _, rfl, HB, HMS.out.below (hal _), hal _⟩

theorem turn_any (w : World) {L : Nat} (bl : Bool) (A : Option Addr) (n c : Nat) (z : Int) (hbl : Hid (bl = decide (z < 0))) (ha : Ms w L A n c z.natAbs) :
    Calls Tryz.prog 127 #[.agg #[.bool bl, .slice A n c]] w (RetP w L (-z)) := by
  have hW : Below w.heap.size w ((w.alloc (.cells #[.bool bl, .slice A n c] 102)).alloc (.cells #[.bool false, .slice none 0 0] 102)) := (((Below.refl w.heap.size w).alloc (Nat.le_refl _) _).alloc (by simp <;> omega) _)
  have o1 := heap_more (heap_last w (.cells #[.bool bl, .slice A n c] 102)) (.cells #[.bool false, .slice none 0 0] 102)
  have O1 := Lib.hid o1
  clear o1
  have o2 := heap_last (w.alloc (.cells #[.bool bl, .slice A n c] 102)) (.cells #[.bool false, .slice none 0 0] 102)
  rw [show (w.alloc (.cells #[.bool bl, .slice A n c] 102)).heap.size = w.heap.size + 1 by simp] at o2
  have O2 := Lib.hid o2
  clear o2
  have hsz : ((w.alloc (.cells #[.bool bl, .slice A n c] 102)).alloc (.cells #[.bool false, .slice none 0 0] 102)).heap.size = w.heap.size + 1 + 1 := by simp
  have HSZ := Lib.hid hsz
  clear hsz
  have ha1 := ha.ds.below hW
  have HB : Hid (z.natAbs ≠ 0 → (!bl) = decide (-z < 0)) := by
    show _ → _
    intro h; rw [hbl.out, Bool.eq_iff_iff]; simp only [Bool.not_eq_true', decide_eq_false_iff_not, decide_eq_true_eq]; omega
  go_enter Tryz.func127, Tryz.ntmps127
  go_wp2_with fail
  refine (made_any _ (!bl) _ _ _ z.natAbs (-z) ha1 (Int.natAbs_neg z) HB.out).mono ?_
  rintro e w1 ⟨b1, A1, l1, c1, rfl, hb1, hA1, hbe1⟩
  have hW1 := chain hW hbe1
  have hs := hW1.size
  have y1 := cell_later (j := 0) O2.out hbe1
  have y2 := cell_later (j := 1) O2.out hbe1
  have g1 := frozen_later O2.out hbe1 0
  have g2 := frozen_later O2.out hbe1 1
  simp at y1 y2
  have HA := Lib.hid hA1
  have HF := Lib.hid (hA1.off (g := w.heap.size + 1) (blk_later O2.out hbe1) (by simp) (by simp))
  clear hA1
  go_wp2
  refine bodyPost_ret (v := .agg #[.bool b1, .slice A1 l1 c1]) (by simp [results, Tryz.results127, go_sem, y1, y2]) rfl ⟨_, _, _, _, rfl, hb1, (HA.out.setCell HF.out).setCell HF.out, (hW1.setCell (by simp <;> omega) _).setCell (by simp <;> omega) _⟩

theorem ptimes_any (w : World) {La Lb : Nat} (bl : Bool) (A : Option Addr) (n c : Nat) (y : Int) (hbl : Hid (bl = decide (y < 0))) (ha : Ms w La A n c y.natAbs)
    (bm : Bool) (B : Option Addr) (m d : Nat) (z : Int) (hbm : Hid (bm = decide (z < 0))) (hb : Ms w Lb B m d z.natAbs) (hL : La ≤ 100000000) (hL' : Lb ≤ 100000000) :
    Calls Tryz.prog 124 #[.agg #[.bool bl, .slice A n c], .agg #[.bool bm, .slice B m d]] w (RetP w (La + Lb) (y * z)) := by
  have hW : Below w.heap.size w (((w.alloc (.cells #[.bool bl, .slice A n c] 102)).alloc (.cells #[.bool bm, .slice B m d] 102)).alloc (.cells #[.bool false, .slice none 0 0] 102)) := ((((Below.refl w.heap.size w).alloc (Nat.le_refl _) _).alloc (by simp <;> omega) _).alloc (by simp <;> omega) _)
  have o1 := heap_more (heap_more (heap_last w (.cells #[.bool bl, .slice A n c] 102)) (.cells #[.bool bm, .slice B m d] 102)) (.cells #[.bool false, .slice none 0 0] 102)
  have O1 := Lib.hid o1
  clear o1
  have o2 := heap_more (heap_last (w.alloc (.cells #[.bool bl, .slice A n c] 102)) (.cells #[.bool bm, .slice B m d] 102)) (.cells #[.bool false, .slice none 0 0] 102)
  rw [show (w.alloc (.cells #[.bool bl, .slice A n c] 102)).heap.size = w.heap.size + 1 by simp] at o2
  have O2 := Lib.hid o2
  clear o2
  have o3 := heap_last ((w.alloc (.cells #[.bool bl, .slice A n c] 102)).alloc (.cells #[.bool bm, .slice B m d] 102)) (.cells #[.bool false, .slice none 0 0] 102)
  rw [show ((w.alloc (.cells #[.bool bl, .slice A n c] 102)).alloc (.cells #[.bool bm, .slice B m d] 102)).heap.size = w.heap.size + 1 + 1 by simp] at o3
  have O3 := Lib.hid o3
  clear o3
  have hsz : (((w.alloc (.cells #[.bool bl, .slice A n c] 102)).alloc (.cells #[.bool bm, .slice B m d] 102)).alloc (.cells #[.bool false, .slice none 0 0] 102)).heap.size = w.heap.size + 1 + 1 + 1 := by simp
  have HSZ := Lib.hid hsz
  clear hsz
  have ha1 := ha.ds.below hW
  have hb1 := hb.ds.below hW
  have hLL : La + Lb ≤ La + Lb := Nat.le_refl _
  have HN : Hid ((y * z).natAbs = y.natAbs * z.natAbs) := Int.natAbs_mul y z
  have HB : Hid (y.natAbs * z.natAbs ≠ 0 → (bl != bm) = decide (y * z < 0)) := by
    show _ → _
    intro h; rw [hbl.out, hbm.out]; exact sign_mul y z (by rw [Int.natAbs_mul]; exact h)
  go_enter Tryz.func124, Tryz.ntmps124
  have hLE : w.heap.size + 1 + 1 ≤ (((w.alloc (.cells #[.bool bl, .slice A n c] 102)).alloc (.cells #[.bool bm, .slice B m d] 102)).alloc (.cells #[.bool false, .slice none 0 0] 102)).heap.size := by simp
  have HS : Hid (∀ w', Below (w.heap.size + 1 + 1) (((w.alloc (.cells #[.bool bl, .slice A n c] 102)).alloc (.cells #[.bool bm, .slice B m d] 102)).alloc (.cells #[.bool false, .slice none 0 0] 102)) w' → w'.cell? ⟨w.heap.size, 0, none⟩ = some (.bool bl) ∧ w'.cell? ⟨w.heap.size, 1, none⟩ = some (.slice A n c) ∧ w'.cell? ⟨w.heap.size + 1, 0, none⟩ = some (.bool bm) ∧ w'.cell? ⟨w.heap.size + 1, 1, none⟩ = some (.slice B m d)) := fun w' h => ⟨cell_at O1.out (by omega) h, cell_at O1.out (by omega) h, cell_at O2.out (by omega) h, cell_at O2.out (by omega) h⟩
  have hd0 : Below (((w.alloc (.cells #[.bool bl, .slice A n c] 102)).alloc (.cells #[.bool bm, .slice B m d] 102)).alloc (.cells #[.bool false, .slice none 0 0] 102)).heap.size (((w.alloc (.cells #[.bool bl, .slice A n c] 102)).alloc (.cells #[.bool bm, .slice B m d] 102)).alloc (.cells #[.bool false, .slice none 0 0] 102)) (((w.alloc (.cells #[.bool bl, .slice A n c] 102)).alloc (.cells #[.bool bm, .slice B m d] 102)).alloc (.cells #[.bool false, .slice none 0 0] 102)).drew := (Below.refl _ _).drew
  go_wp2_with fail
  go_region_held3 (fun w' => w'.cell? ⟨w.heap.size, 0, none⟩ = some (.bool bl) ∧ w'.cell? ⟨w.heap.size, 1, none⟩ = some (.slice A n c) ∧ w'.cell? ⟨w.heap.size + 1, 0, none⟩ = some (.bool bm) ∧ w'.cell? ⟨w.heap.size + 1, 1, none⟩ = some (.slice B m d))
    ((refine HS.out _ ?_; repeat (first | with_reducible exact hd0.mono hLE | with_reducible exact Below.mono hbe0 hLE | with_reducible exact Below.mono hbx hLE | (with_reducible refine Below.setCell ?_ (by first | omega | (simp <;> omega)) _))))
    (first
      | (go_at_call 162; (refine (product_any _ _ _ _ _ _ _ _ _ (ha1.below hd0) (hb1.below hd0) (by omega)).mono ?_); rintro e w1 ⟨A0, l0, c0, rfl, hA0, hbe0'⟩; have hbe0 := chain hd0 hbe0')
      | (go_at_call 122; (refine (made_any _ (bl != bm) _ _ _ (y.natAbs * z.natAbs) (y * z) hA0.ds HN.out HB.out).mono ?_); rintro e w9 ⟨b1, A1, l1, c1, rfl, hb1', hA1, hbe1⟩; have hbx := chain hbe0 hbe1; have y1 := cell_later (j := 0) O3.out hbx; have y2 := cell_later (j := 1) O3.out hbx; have g1 := frozen_later O3.out hbx 0; have g2 := frozen_later O3.out hbx 1; simp at y1 y2))
  have hW1 := chain hW hbx
  have hs := hW1.size
  have HA := Lib.hid (hA1.mono hLL)
  have HF := Lib.hid (hA1.off (g := w.heap.size + 1 + 1) (blk_later O3.out hbx) (by simp) (by simp))
  clear hA1
  go_wp2
  refine bodyPost_ret (v := .agg #[.bool b1, .slice A1 l1 c1]) (by simp [results, Tryz.results124, go_sem, y1, y2]) rfl ⟨_, _, _, _, rfl, hb1', (HA.out.setCell HF.out).setCell HF.out, (hW1.setCell (by simp <;> omega) _).setCell (by simp <;> omega) _⟩

theorem pplus_any (w : World) {La Lb : Nat} (bl : Bool) (A : Option Addr) (n c : Nat) (y : Int) (hbl : Hid (bl = decide (y < 0))) (ha : Ms w La A n c y.natAbs)
    (bm : Bool) (B : Option Addr) (m d : Nat) (z : Int) (hbm : Hid (bm = decide (z < 0))) (hb : Ms w Lb B m d z.natAbs) (hL : La ≤ 100000000) (hL' : Lb ≤ 100000000) :
    Calls Tryz.prog 123 #[.agg #[.bool bl, .slice A n c], .agg #[.bool bm, .slice B m d]] w (RetP w (max La Lb + 1) (y + z)) := by
  have hW : Below w.heap.size w (((w.alloc (.cells #[.bool bl, .slice A n c] 102)).alloc (.cells #[.bool bm, .slice B m d] 102)).alloc (.cells #[.bool false, .slice none 0 0] 102)) := ((((Below.refl w.heap.size w).alloc (Nat.le_refl _) _).alloc (by simp <;> omega) _).alloc (by simp <;> omega) _)
  have o1 := heap_more (heap_more (heap_last w (.cells #[.bool bl, .slice A n c] 102)) (.cells #[.bool bm, .slice B m d] 102)) (.cells #[.bool false, .slice none 0 0] 102)
  have O1 := Lib.hid o1
  clear o1
  have o2 := heap_more (heap_last (w.alloc (.cells #[.bool bl, .slice A n c] 102)) (.cells #[.bool bm, .slice B m d] 102)) (.cells #[.bool false, .slice none 0 0] 102)
  rw [show (w.alloc (.cells #[.bool bl, .slice A n c] 102)).heap.size = w.heap.size + 1 by simp] at o2
  have O2 := Lib.hid o2
  clear o2
  have o3 := heap_last ((w.alloc (.cells #[.bool bl, .slice A n c] 102)).alloc (.cells #[.bool bm, .slice B m d] 102)) (.cells #[.bool false, .slice none 0 0] 102)
  rw [show ((w.alloc (.cells #[.bool bl, .slice A n c] 102)).alloc (.cells #[.bool bm, .slice B m d] 102)).heap.size = w.heap.size + 1 + 1 by simp] at o3
  have O3 := Lib.hid o3
  clear o3
  have hsz : (((w.alloc (.cells #[.bool bl, .slice A n c] 102)).alloc (.cells #[.bool bm, .slice B m d] 102)).alloc (.cells #[.bool false, .slice none 0 0] 102)).heap.size = w.heap.size + 1 + 1 + 1 := by simp
  have HSZ := Lib.hid hsz
  clear hsz
  have ha1 := ha.below hW
  have hb1 := hb.below hW
  by_cases hs0 : bl = bm
  · subst hs0
    have hLL : max La Lb + 1 ≤ max La Lb + 1 := Nat.le_refl _
    have hsg : decide (y < 0) = decide (z < 0) := hbl.out.symm.trans hbm.out
    have HN : Hid ((y + z).natAbs = y.natAbs + z.natAbs) := by
      show _ = _
      have : y < 0 ↔ z < 0 := by simpa using hsg
      omega
    have HB : Hid (y.natAbs + z.natAbs ≠ 0 → bl = decide (y + z < 0)) := by
      show _ → _
      intro h
      have : y < 0 ↔ z < 0 := by simpa using hsg
      rw [hbl.out, Bool.eq_iff_iff]; simp only [decide_eq_true_eq]; omega
    clear hsg
    go_enter Tryz.func123, Tryz.ntmps123
    have hLE : w.heap.size + 1 + 1 ≤ (((w.alloc (.cells #[.bool bl, .slice A n c] 102)).alloc (.cells #[.bool bl, .slice B m d] 102)).alloc (.cells #[.bool false, .slice none 0 0] 102)).heap.size := by simp
    have HS : Hid (∀ w', Below (w.heap.size + 1 + 1) (((w.alloc (.cells #[.bool bl, .slice A n c] 102)).alloc (.cells #[.bool bl, .slice B m d] 102)).alloc (.cells #[.bool false, .slice none 0 0] 102)) w' → w'.cell? ⟨w.heap.size, 0, none⟩ = some (.bool bl) ∧ w'.cell? ⟨w.heap.size, 1, none⟩ = some (.slice A n c) ∧ w'.cell? ⟨w.heap.size + 1, 0, none⟩ = some (.bool bl) ∧ w'.cell? ⟨w.heap.size + 1, 1, none⟩ = some (.slice B m d)) := fun w' h => ⟨cell_at O1.out (by omega) h, cell_at O1.out (by omega) h, cell_at O2.out (by omega) h, cell_at O2.out (by omega) h⟩
    have hd0 : Below (((w.alloc (.cells #[.bool bl, .slice A n c] 102)).alloc (.cells #[.bool bl, .slice B m d] 102)).alloc (.cells #[.bool false, .slice none 0 0] 102)).heap.size (((w.alloc (.cells #[.bool bl, .slice A n c] 102)).alloc (.cells #[.bool bl, .slice B m d] 102)).alloc (.cells #[.bool false, .slice none 0 0] 102)) (((w.alloc (.cells #[.bool bl, .slice A n c] 102)).alloc (.cells #[.bool bl, .slice B m d] 102)).alloc (.cells #[.bool false, .slice none 0 0] 102)).drew := (Below.refl _ _).drew
    go_wp2_with fail
    go_region_held3 (fun w' => w'.cell? ⟨w.heap.size, 0, none⟩ = some (.bool bl) ∧ w'.cell? ⟨w.heap.size, 1, none⟩ = some (.slice A n c) ∧ w'.cell? ⟨w.heap.size + 1, 0, none⟩ = some (.bool bl) ∧ w'.cell? ⟨w.heap.size + 1, 1, none⟩ = some (.slice B m d))
      ((refine HS.out _ ?_; repeat (first | with_reducible exact hd0.mono hLE | with_reducible exact Below.mono hbe2 hLE | with_reducible exact Below.mono hbx hLE | (with_reducible refine Below.setCell ?_ (by first | omega | (simp <;> omega)) _))))
      (first
        | (go_at_call 159; (refine (sum_any _ _ _ _ _ _ _ _ _ (ha1.below hd0) (hb1.below hd0) (by omega) (by omega)).mono ?_); rintro e w1 ⟨A0, l0, c0, rfl, hA0, hbe2'⟩; have hbe2 := chain hd0 hbe2')
        | (go_at_call 122; (refine (made_any _ bl _ _ _ (y.natAbs + z.natAbs) (y + z) hA0 HN.out HB.out).mono ?_); rintro e w9 ⟨b1, A1, l1, c1, rfl, hb1', hA1, hbe1⟩; have hbx := chain hbe2 hbe1; have y1 := cell_later (j := 0) O3.out hbx; have y2 := cell_later (j := 1) O3.out hbx; have g1 := frozen_later O3.out hbx 0; have g2 := frozen_later O3.out hbx 1; simp at y1 y2))
    have hW1 := chain hW hbx
    have hs := hW1.size
    have HA := Lib.hid (hA1.mono hLL)
    have HF := Lib.hid (hA1.off (g := w.heap.size + 1 + 1) (blk_later O3.out hbx) (by simp) (by simp))
    clear hA1
    go_wp2
    refine bodyPost_ret (v := .agg #[.bool b1, .slice A1 l1 c1]) (by simp [results, Tryz.results123, go_sem, y1, y2]) rfl ⟨_, _, _, _, rfl, hb1', (HA.out.setCell HF.out).setCell HF.out, (hW1.setCell (by simp <;> omega) _).setCell (by simp <;> omega) _⟩

  · obtain rfl : bm = !bl := by cases bl <;> cases bm <;> simp at hs0 ⊢
    have hsg : (y < 0 ↔ ¬ z < 0) := by
      have e1 := hbl.out
      have e2 := hbm.out
      rw [e1] at e2
      by_cases h1 : y < 0
      · simp [h1] at e2; omega
      · simp [h1] at e2; omega
    have hne : (bl == !bl) = false := by cases bl <;> rfl
    clear hs0
    by_cases hle : z.natAbs ≤ y.natAbs
    · have hLL : La ≤ max La Lb + 1 := by omega
      have HN : Hid ((y + z).natAbs = y.natAbs - z.natAbs) := by show _ = _; omega
      have HB : Hid (y.natAbs - z.natAbs ≠ 0 → bl = decide (y + z < 0)) := by
        show _ → _
        intro h
        rw [hbl.out, Bool.eq_iff_iff]; simp only [decide_eq_true_eq]; omega
      clear hsg
      go_enter Tryz.func123, Tryz.ntmps123
      go_wp2_with fail
      refine (order_any _ _ _ _ _ _ _ _ _ ha1 hb1).mono ?_
      rintro e w1 ⟨r, rfl, hr, hbe0⟩
      have hr0 : 0 ≤ r := by have := hr.1; omega
      clear hr
      have hLE : w.heap.size + 1 + 1 ≤ (((w.alloc (.cells #[.bool bl, .slice A n c] 102)).alloc (.cells #[.bool (!bl), .slice B m d] 102)).alloc (.cells #[.bool false, .slice none 0 0] 102)).heap.size := by simp
      have HS : Hid (∀ w', Below (w.heap.size + 1 + 1) (((w.alloc (.cells #[.bool bl, .slice A n c] 102)).alloc (.cells #[.bool (!bl), .slice B m d] 102)).alloc (.cells #[.bool false, .slice none 0 0] 102)) w' → w'.cell? ⟨w.heap.size, 0, none⟩ = some (.bool bl) ∧ w'.cell? ⟨w.heap.size, 1, none⟩ = some (.slice A n c) ∧ w'.cell? ⟨w.heap.size + 1, 0, none⟩ = some (.bool (!bl)) ∧ w'.cell? ⟨w.heap.size + 1, 1, none⟩ = some (.slice B m d)) := fun w' h => ⟨cell_at O1.out (by omega) h, cell_at O1.out (by omega) h, cell_at O2.out (by omega) h, cell_at O2.out (by omega) h⟩
      have hd0 : Below (((w.alloc (.cells #[.bool bl, .slice A n c] 102)).alloc (.cells #[.bool (!bl), .slice B m d] 102)).alloc (.cells #[.bool false, .slice none 0 0] 102)).heap.size (((w.alloc (.cells #[.bool bl, .slice A n c] 102)).alloc (.cells #[.bool (!bl), .slice B m d] 102)).alloc (.cells #[.bool false, .slice none 0 0] 102)) w1.drew := hbe0.drew
      have x1 := cell_later (j := 0) O1.out hbe0
      have x2 := cell_later (j := 1) O1.out hbe0
      have x3 := cell_later (j := 0) O2.out hbe0
      have x4 := cell_later (j := 1) O2.out hbe0
      simp at x1 x2 x3 x4
      go_wp2_with fail
      go_region_held3 (fun w' => w'.cell? ⟨w.heap.size, 0, none⟩ = some (.bool bl) ∧ w'.cell? ⟨w.heap.size, 1, none⟩ = some (.slice A n c) ∧ w'.cell? ⟨w.heap.size + 1, 0, none⟩ = some (.bool (!bl)) ∧ w'.cell? ⟨w.heap.size + 1, 1, none⟩ = some (.slice B m d))
        ((refine HS.out _ ?_; repeat (first | with_reducible exact hd0.mono hLE | with_reducible exact Below.mono hbe2 hLE | with_reducible exact Below.mono hbx hLE | (with_reducible refine Below.setCell ?_ (by first | omega | (simp <;> omega)) _))))
        (first
          | (go_at_call 161; (refine (difference_any _ _ _ _ _ _ _ _ _ (ha1.below hd0) (hb1.below hd0) hle (by omega)).mono ?_); rintro e w2 ⟨A0, l0, c0, rfl, hA0, hbe2'⟩; have hbe2 := chain hd0 hbe2')
          | (go_at_call 122; (refine (made_any _ bl _ _ _ (y.natAbs - z.natAbs) (y + z) hA0.ds HN.out HB.out).mono ?_); rintro e w9 ⟨b1, A1, l1, c1, rfl, hb1', hA1, hbe1⟩; have hbx := chain hbe2 hbe1; have y1 := cell_later (j := 0) O3.out hbx; have y2 := cell_later (j := 1) O3.out hbx; have g1 := frozen_later O3.out hbx 0; have g2 := frozen_later O3.out hbx 1; simp at y1 y2))
      have hW1 := chain hW hbx
      have hs := hW1.size
      have HA := Lib.hid (hA1.mono hLL)
      have HF := Lib.hid (hA1.off (g := w.heap.size + 1 + 1) (blk_later O3.out hbx) (by simp) (by simp))
      clear hA1
      go_wp2
      refine bodyPost_ret (v := .agg #[.bool b1, .slice A1 l1 c1]) (by simp [results, Tryz.results123, go_sem, y1, y2]) rfl ⟨_, _, _, _, rfl, hb1', (HA.out.setCell HF.out).setCell HF.out, (hW1.setCell (by simp <;> omega) _).setCell (by simp <;> omega) _⟩

    · have hLL : Lb ≤ max La Lb + 1 := by omega
      have HN : Hid ((y + z).natAbs = z.natAbs - y.natAbs) := by show _ = _; omega
      have HB : Hid (z.natAbs - y.natAbs ≠ 0 → (!bl) = decide (y + z < 0)) := by
        show _ → _
        intro h
        rw [hbm.out, Bool.eq_iff_iff]; simp only [decide_eq_true_eq]; omega
      clear hsg
      go_enter Tryz.func123, Tryz.ntmps123
      go_wp2_with fail
      refine (order_any _ _ _ _ _ _ _ _ _ ha1 hb1).mono ?_
      rintro e w1 ⟨r, rfl, hr, hbe0⟩
      have hr0 : r < 0 := by have := hr.1; omega
      clear hr
      have hLE : w.heap.size + 1 + 1 ≤ (((w.alloc (.cells #[.bool bl, .slice A n c] 102)).alloc (.cells #[.bool (!bl), .slice B m d] 102)).alloc (.cells #[.bool false, .slice none 0 0] 102)).heap.size := by simp
      have HS : Hid (∀ w', Below (w.heap.size + 1 + 1) (((w.alloc (.cells #[.bool bl, .slice A n c] 102)).alloc (.cells #[.bool (!bl), .slice B m d] 102)).alloc (.cells #[.bool false, .slice none 0 0] 102)) w' → w'.cell? ⟨w.heap.size, 0, none⟩ = some (.bool bl) ∧ w'.cell? ⟨w.heap.size, 1, none⟩ = some (.slice A n c) ∧ w'.cell? ⟨w.heap.size + 1, 0, none⟩ = some (.bool (!bl)) ∧ w'.cell? ⟨w.heap.size + 1, 1, none⟩ = some (.slice B m d)) := fun w' h => ⟨cell_at O1.out (by omega) h, cell_at O1.out (by omega) h, cell_at O2.out (by omega) h, cell_at O2.out (by omega) h⟩
      have hd0 : Below (((w.alloc (.cells #[.bool bl, .slice A n c] 102)).alloc (.cells #[.bool (!bl), .slice B m d] 102)).alloc (.cells #[.bool false, .slice none 0 0] 102)).heap.size (((w.alloc (.cells #[.bool bl, .slice A n c] 102)).alloc (.cells #[.bool (!bl), .slice B m d] 102)).alloc (.cells #[.bool false, .slice none 0 0] 102)) w1.drew := hbe0.drew
      have x1 := cell_later (j := 0) O1.out hbe0
      have x2 := cell_later (j := 1) O1.out hbe0
      have x3 := cell_later (j := 0) O2.out hbe0
      have x4 := cell_later (j := 1) O2.out hbe0
      simp at x1 x2 x3 x4
      go_wp2_with fail
      go_region_held3 (fun w' => w'.cell? ⟨w.heap.size, 0, none⟩ = some (.bool bl) ∧ w'.cell? ⟨w.heap.size, 1, none⟩ = some (.slice A n c) ∧ w'.cell? ⟨w.heap.size + 1, 0, none⟩ = some (.bool (!bl)) ∧ w'.cell? ⟨w.heap.size + 1, 1, none⟩ = some (.slice B m d))
        ((refine HS.out _ ?_; repeat (first | with_reducible exact hd0.mono hLE | with_reducible exact Below.mono hbe2 hLE | with_reducible exact Below.mono hbx hLE | (with_reducible refine Below.setCell ?_ (by first | omega | (simp <;> omega)) _))))
        (first
          | (go_at_call 161; (refine (difference_any _ _ _ _ _ _ _ _ _ (hb1.below hd0) (ha1.below hd0) (by omega) (by omega)).mono ?_); rintro e w2 ⟨A0, l0, c0, rfl, hA0, hbe2'⟩; have hbe2 := chain hd0 hbe2')
          | (go_at_call 122; (refine (made_any _ (!bl) _ _ _ (z.natAbs - y.natAbs) (y + z) hA0.ds HN.out HB.out).mono ?_); rintro e w9 ⟨b1, A1, l1, c1, rfl, hb1', hA1, hbe1⟩; have hbx := chain hbe2 hbe1; have y1 := cell_later (j := 0) O3.out hbx; have y2 := cell_later (j := 1) O3.out hbx; have g1 := frozen_later O3.out hbx 0; have g2 := frozen_later O3.out hbx 1; simp at y1 y2))
      have hW1 := chain hW hbx
      have hs := hW1.size
      have HA := Lib.hid (hA1.mono hLL)
      have HF := Lib.hid (hA1.off (g := w.heap.size + 1 + 1) (blk_later O3.out hbx) (by simp) (by simp))
      clear hA1
      go_wp2
      refine bodyPost_ret (v := .agg #[.bool b1, .slice A1 l1 c1]) (by simp [results, Tryz.results123, go_sem, y1, y2]) rfl ⟨_, _, _, _, rfl, hb1', (HA.out.setCell HF.out).setCell HF.out, (hW1.setCell (by simp <;> omega) _).setCell (by simp <;> omega) _⟩

theorem pminus_any (w : World) {La Lb : Nat} (bl : Bool) (A : Option Addr) (n c : Nat) (y : Int) (hbl : Hid (bl = decide (y < 0))) (ha : Ms w La A n c y.natAbs)
    (bm : Bool) (B : Option Addr) (m d : Nat) (z : Int) (hbm : Hid (bm = decide (z < 0))) (hb : Ms w Lb B m d z.natAbs) (hL : La ≤ 100000000) (hL' : Lb ≤ 100000000) :
    Calls Tryz.prog 164 #[.agg #[.bool bl, .slice A n c], .agg #[.bool bm, .slice B m d]] w (RetP w (max La Lb + 1) (y - z)) := by
  have hW : Below w.heap.size w (((w.alloc (.cells #[.bool bl, .slice A n c] 102)).alloc (.cells #[.bool bm, .slice B m d] 102)).alloc (.cells #[.bool false, .slice none 0 0] 102)) := ((((Below.refl w.heap.size w).alloc (Nat.le_refl _) _).alloc (by simp <;> omega) _).alloc (by simp <;> omega) _)
  have o1 := heap_more (heap_more (heap_last w (.cells #[.bool bl, .slice A n c] 102)) (.cells #[.bool bm, .slice B m d] 102)) (.cells #[.bool false, .slice none 0 0] 102)
  have O1 := Lib.hid o1
  clear o1
  have o2 := heap_more (heap_last (w.alloc (.cells #[.bool bl, .slice A n c] 102)) (.cells #[.bool bm, .slice B m d] 102)) (.cells #[.bool false, .slice none 0 0] 102)
  rw [show (w.alloc (.cells #[.bool bl, .slice A n c] 102)).heap.size = w.heap.size + 1 by simp] at o2
  have O2 := Lib.hid o2
  clear o2
  have o3 := heap_last ((w.alloc (.cells #[.bool bl, .slice A n c] 102)).alloc (.cells #[.bool bm, .slice B m d] 102)) (.cells #[.bool false, .slice none 0 0] 102)
  rw [show ((w.alloc (.cells #[.bool bl, .slice A n c] 102)).alloc (.cells #[.bool bm, .slice B m d] 102)).heap.size = w.heap.size + 1 + 1 by simp] at o3
  have O3 := Lib.hid o3
  clear o3
  have hsz : (((w.alloc (.cells #[.bool bl, .slice A n c] 102)).alloc (.cells #[.bool bm, .slice B m d] 102)).alloc (.cells #[.bool false, .slice none 0 0] 102)).heap.size = w.heap.size + 1 + 1 + 1 := by simp
  have HSZ := Lib.hid hsz
  clear hsz
  have ha1 := ha.below hW
  have hb1 := hb.below hW
  have HS : Hid (y + -z = y - z) := Int.sub_eq_add_neg.symm
  have hLL : max La Lb + 1 ≤ max La Lb + 1 := Nat.le_refl _
  go_enter Tryz.func164, Tryz.ntmps164
  have hLE : w.heap.size + 1 + 1 ≤ (((w.alloc (.cells #[.bool bl, .slice A n c] 102)).alloc (.cells #[.bool bm, .slice B m d] 102)).alloc (.cells #[.bool false, .slice none 0 0] 102)).heap.size := by simp
  have HS' : Hid (∀ w', Below (w.heap.size + 1 + 1) (((w.alloc (.cells #[.bool bl, .slice A n c] 102)).alloc (.cells #[.bool bm, .slice B m d] 102)).alloc (.cells #[.bool false, .slice none 0 0] 102)) w' → w'.cell? ⟨w.heap.size, 0, none⟩ = some (.bool bl) ∧ w'.cell? ⟨w.heap.size, 1, none⟩ = some (.slice A n c) ∧ w'.cell? ⟨w.heap.size + 1, 0, none⟩ = some (.bool bm) ∧ w'.cell? ⟨w.heap.size + 1, 1, none⟩ = some (.slice B m d)) := fun w' h => ⟨cell_at O1.out (by omega) h, cell_at O1.out (by omega) h, cell_at O2.out (by omega) h, cell_at O2.out (by omega) h⟩
  have hd0 : Below (((w.alloc (.cells #[.bool bl, .slice A n c] 102)).alloc (.cells #[.bool bm, .slice B m d] 102)).alloc (.cells #[.bool false, .slice none 0 0] 102)).heap.size (((w.alloc (.cells #[.bool bl, .slice A n c] 102)).alloc (.cells #[.bool bm, .slice B m d] 102)).alloc (.cells #[.bool false, .slice none 0 0] 102)) (((w.alloc (.cells #[.bool bl, .slice A n c] 102)).alloc (.cells #[.bool bm, .slice B m d] 102)).alloc (.cells #[.bool false, .slice none 0 0] 102)).drew := (Below.refl _ _).drew
  go_wp2_with fail
  go_region_held3 (fun w' => w'.cell? ⟨w.heap.size, 0, none⟩ = some (.bool bl) ∧ w'.cell? ⟨w.heap.size, 1, none⟩ = some (.slice A n c) ∧ w'.cell? ⟨w.heap.size + 1, 0, none⟩ = some (.bool bm) ∧ w'.cell? ⟨w.heap.size + 1, 1, none⟩ = some (.slice B m d))
    ((refine HS'.out _ ?_; repeat (first | with_reducible exact hd0.mono hLE | with_reducible exact Below.mono hbe0 hLE | with_reducible exact Below.mono hbx hLE | (with_reducible refine Below.setCell ?_ (by first | omega | (simp <;> omega)) _))))
    (first
      | (go_at_call 127; (refine (turn_any _ _ _ _ _ z hbm (hb1.below hd0)).mono ?_); rintro e w1 ⟨b0, A0, l0, c0, rfl, hb0, hA0, hbe0'⟩; have hbe0 := chain hd0 hbe0')
      | (go_at_call 123; (refine (pplus_any _ _ _ _ _ y hbl (ha1.below hbe0) _ _ _ _ (-z) hb0 hA0 hL hL').mono ?_); rintro e w9 ⟨b1, A1, l1, c1, rfl, hb1', hA1, hbe1⟩; have hbx := chain hbe0 hbe1; have y1 := cell_later (j := 0) O3.out hbx; have y2 := cell_later (j := 1) O3.out hbx; have g1 := frozen_later O3.out hbx 0; have g2 := frozen_later O3.out hbx 1; simp at y1 y2))
  have hW1 := chain hW hbx
  have hs := hW1.size
  have HA := Lib.hid (HS.out ▸ hA1.mono hLL)
  have HF := Lib.hid (hA1.off (g := w.heap.size + 1 + 1) (blk_later O3.out hbx) (by simp) (by simp))
  clear hA1
  go_wp2
  refine bodyPost_ret (v := .agg #[.bool b1, .slice A1 l1 c1]) (by simp [results, Tryz.results164, go_sem, y1, y2]) rfl ⟨_, _, _, _, rfl, (by rw [← HS.out]; exact hb1'), (HA.out.setCell HF.out).setCell HF.out, (hW1.setCell (by simp <;> omega) _).setCell (by simp <;> omega) _⟩

theorem porder_any (w : World) {La Lb : Nat} (bl : Bool) (A : Option Addr) (n c : Nat) (y : Int) (hbl : Hid (bl = decide (y < 0))) (ha : Ms w La A n c y.natAbs)
    (bm : Bool) (B : Option Addr) (m d : Nat) (z : Int) (hbm : Hid (bm = decide (z < 0))) (hb : Ms w Lb B m d z.natAbs) (hL : La ≤ 100000000) (hL' : Lb ≤ 100000000) :
    Calls Tryz.prog 154 #[.agg #[.bool bl, .slice A n c], .agg #[.bool bm, .slice B m d]] w fun e w' => e = .returned (.int .i64 (y - z).sign) ∧ Below w.heap.size w w' := by
  have hW : Below w.heap.size w ((w.alloc (.cells #[.bool bl, .slice A n c] 102)).alloc (.cells #[.bool bm, .slice B m d] 102)) := (((Below.refl w.heap.size w).alloc (Nat.le_refl _) _).alloc (by simp <;> omega) _)
  have o1 := heap_more (heap_last w (.cells #[.bool bl, .slice A n c] 102)) (.cells #[.bool bm, .slice B m d] 102)
  have O1 := Lib.hid o1
  clear o1
  have o2 := heap_last (w.alloc (.cells #[.bool bl, .slice A n c] 102)) (.cells #[.bool bm, .slice B m d] 102)
  rw [show (w.alloc (.cells #[.bool bl, .slice A n c] 102)).heap.size = w.heap.size + 1 by simp] at o2
  have O2 := Lib.hid o2
  clear o2
  have hsz : ((w.alloc (.cells #[.bool bl, .slice A n c] 102)).alloc (.cells #[.bool bm, .slice B m d] 102)).heap.size = w.heap.size + 1 + 1 := by simp
  have HSZ := Lib.hid hsz
  clear hsz
  have ha1 := ha.below hW
  have hb1 := hb.below hW
  go_enter Tryz.func154, Tryz.ntmps154
  go_wp2_with fail
  refine (pminus_any _ _ _ _ _ y hbl ha1 _ _ _ _ z hbm hb1 hL hL').mono ?_
  rintro e w1 ⟨b0, A0, l0, c0, rfl, hb0, hA0, hbe0⟩
  have hl := hA0.len_zero
  have hW1 := chain hW hbe0
  have hbx : Below w1.heap.size w1 (w1.alloc (.cells #[.bool b0, .slice A0 l0 c0] 102)) := (Below.refl _ _).alloc (Nat.le_refl _) _
  rcases Int.lt_trichotomy (y - z) 0 with h | h | h
  · have hs : Hid ((y - z).sign = -1) := Int.sign_eq_neg_one_of_neg h
    obtain rfl : b0 = true := by rw [hb0.out]; simp [h]
    clear hl hb0 h
    go_wp2
    go_ret
    exact ⟨by rw [hs.out]; rfl, chain hW1 hbx⟩
  · have hs : Hid ((y - z).sign = 0) := by show _ = _; rw [h]; rfl
    obtain rfl : b0 = false := by rw [hb0.out, h]; rfl
    obtain rfl : l0 = 0 := hl.2 (by rw [h]; rfl)
    clear hl hb0 h
    go_wp2
    go_ret
    exact ⟨by rw [hs.out]; rfl, chain hW1 hbx⟩
  · have hs : Hid ((y - z).sign = 1) := Int.sign_eq_one_of_pos h
    obtain rfl : b0 = false := by rw [hb0.out]; simp; omega
    have hl0 : 0 < l0 := Nat.pos_of_ne_zero fun e => by have := hl.1 e; omega
    clear hl hb0 h
    go_wp2
    go_ret
    exact ⟨by rw [hs.out]; rfl, chain hW1 hbx⟩
end Go.Proofs.YtkajibniibjblaaGreatDoor.P4

namespace Go.Proofs.YtkajibniibjblaaGreatDoor.P4
open Go.RowKit
set_option maxRecDepth 100000

theorem Rd.drop {w : World} {k : IntKind} {b off : Nat} {n c m : Nat} {xs : List Int} (h : Rd w k (some ⟨b, off, none⟩) n c xs) (hm : m ≤ n) : Rd w k (some ⟨b, off + m, none⟩) (n - m) (c - m) (xs.drop m) :=
  ⟨by rw [List.length_drop, h.len], by have := h.cap; omega, by have := h.most; omega, fun e => (by cases e), fun j d hd => by
    rw [List.getElem?_drop] at hd
    obtain ⟨b', off', e, hb, hc⟩ := h.at_ _ d hd
    injection e with e
    injection e with e1 e2 e3
    subst e1 e2
    exact ⟨_, _, rfl, hb, by rw [Nat.add_assoc]; exact hc⟩⟩
theorem Nm.len_le {xs ys : List Int} {a b : Nat} (hx : Nm xs a) (hy : Nm ys b) (h : a ≤ b) : xs.length ≤ ys.length := by
  rcases Nat.lt_or_ge ys.length xs.length with h1 | h1
  · have := hy.lt_of_len hx h1; omega
  · exact h1
theorem Nm.drop {xs : List Int} {a : Nat} (h : Nm xs a) (k : Nat) (hk : k < xs.length) : ∃ v : Nat, Nm (xs.drop k) v := by
  obtain ⟨v, hv⟩ := Int.eq_ofNat_of_zero_le (val_nonneg (h.dig.drop k))
  refine ⟨v, h.dig.drop k, ?_, hv⟩
  obtain ⟨ys, d, e, hd⟩ := tl_last h.tr (fun e => by rw [e] at hk; simp at hk)
  have hl : k ≤ ys.length := by rw [e] at hk; simp at hk; omega
  rw [e, List.drop_append_of_le_length hl]
  exact tl_append_ne _ hd

/-- parts: what has been divided so far, from the highest digit down. -/
structure PartB (N : Nat) (xs : List Int) (b : Nat) (k : Nat) (R : Nat) (cs : List Int) : Prop where
  len : cs.length = N
  eq : val (cs.drop k) * b + R = val (xs.drop k)
  dig : Dig cs
  r1 : R < b
theorem PartB.start {N : Nat} {xs : List Int} {b R : Nat} (hR : val (xs.drop N) = R) (h : R < b) : PartB N xs b N R (List.replicate N 0) :=
  ⟨by simp, by rw [List.drop_of_length_le (by simp), hR]; simp [val], Dig.replicate N, h⟩
theorem PartB.step {N : Nat} {xs cs : List Int} {b R : Nat} {x : Int} {i q r : Nat} (h : PartB N xs b (i + 1) R cs) (hi : i < N) (hx : xs[i]? = some x) (he : (q : Int) * b + r = x + 10000 * R) (hq : q < 10000) (hr : r < b) : PartB N xs b i r (cs.set i q) := by
  have hl : i < (cs.set i (q : Int)).length := by rw [List.length_set, h.len]; exact hi
  have hg : (cs.set i (q : Int))[i]? = some (q : Int) := by rw [List.getElem?_set]; simp [h.len, hi]
  refine ⟨by rw [List.length_set]; exact h.len, ?_, h.dig.set (by omega) (by omega), hr⟩
  rw [val_drop hx, val_drop hg]
  have hd : (cs.set i (q : Int)).drop (i + 1) = cs.drop (i + 1) := List.drop_set_of_lt (by omega)
  rw [hd, ← h.eq]
  grind
theorem PartB.done {N : Nat} {xs cs : List Int} {a b R : Nat} (h : PartB N xs b 0 R cs) (hx : val xs = a) : val cs = ((a / b : Nat) : Int) ∧ R = a % b := by
  have e := h.eq
  simp only [List.drop_zero, hx] at e
  obtain ⟨v, hv⟩ := Int.eq_ofNat_of_zero_le (val_nonneg h.dig)
  rw [hv] at e ⊢
  have e2 : v * b + R = a := by
    have : ((v * b + R : Nat) : Int) = a := by rw [Int.natCast_add, Int.natCast_mul]; exact e
    omega
  have hr := h.r1
  have hb : 0 < b := by omega
  subst e2
  refine ⟨?_, ?_⟩
  · rw [Nat.mul_comm, Nat.mul_add_div hb, Nat.div_eq_of_lt hr]; simp
  · rw [Nat.mul_comm, Nat.mul_add_mod, Nat.mod_eq_of_lt hr]

/-- What the highest digits say of a quotient's digit. -/
theorem guess {b R top first G b0 r0 : Nat} (hb : b = top * G + b0) (h0 : b0 < G) (hR : R = first * G + r0) (h1 : r0 < G) (ht : 10000 ≤ top) (hlt : R < b * 10000) :
    first / (top + 1) < first / top + 1 ∧ first / (top + 1) ≤ 9999 ∧ first / top + 1 ≤ 10001 ∧ b * (first / (top + 1)) ≤ R ∧ R < b * (first / top + 1) := by
  have hG : 0 < G := by omega
  have hf : first < (top + 1) * 10000 := by
    refine Decidable.by_contra fun hn => ?_
    have h2 : (top + 1) * 10000 * G ≤ first * G := Nat.mul_le_mul_right _ (by omega)
    have h3 : b * 10000 < (top + 1) * G * 10000 := by
      have : b < (top + 1) * G := by rw [hb, Nat.add_mul]; omega
      omega
    have h4 : (top + 1) * 10000 * G = (top + 1) * G * 10000 := by rw [Nat.mul_assoc, Nat.mul_comm 10000 G, ← Nat.mul_assoc]
    omega
  have d1 := Nat.div_mul_le_self first (top + 1)
  have d2 := Nat.lt_div_mul_add (a := first) (b := top) (by omega)
  have hmono : first / (top + 1) ≤ first / top := Nat.div_le_div_left (by omega) (by omega)
  refine ⟨by omega, ?_, ?_, ?_, ?_⟩
  · have := Nat.div_lt_of_lt_mul (show first < (top + 1) * 10000 from hf); omega
  · have : first / top ≤ 10000 := by
      refine Decidable.by_contra fun hn => ?_
      have h5 : 10001 * top ≤ first / top * top := Nat.mul_le_mul_right _ (by omega)
      have h6 := Nat.div_mul_le_self first top
      omega
    omega
  · have h7 : b * (first / (top + 1)) ≤ (top + 1) * G * (first / (top + 1)) := Nat.mul_le_mul_right _ (by rw [hb, Nat.add_mul]; omega)
    have h8 : (top + 1) * G * (first / (top + 1)) = first / (top + 1) * (top + 1) * G := by
      rw [Nat.mul_comm, ← Nat.mul_assoc]
    have h9 : first / (top + 1) * (top + 1) * G ≤ first * G := Nat.mul_le_mul_right _ d1
    omega
  · have h7 : top * G * (first / top + 1) ≤ b * (first / top + 1) := Nat.mul_le_mul_right _ (by omega)
    have h8 : top * G * (first / top + 1) = (first / top * top + top) * G := by
      rw [Nat.mul_add, Nat.mul_one, Nat.add_mul, Nat.mul_right_comm, Nat.mul_comm (top * (first / top)), Nat.mul_comm top (first / top), Nat.mul_comm G]
    have h9 : (first + 1) * G ≤ (first / top * top + top) * G := Nat.mul_le_mul_right _ (by omega)
    have h10 : (first + 1) * G = first * G + G := by rw [Nat.add_mul, Nat.one_mul]
    omega
end Go.Proofs.YtkajibniibjblaaGreatDoor.P4

namespace Go.Proofs.YtkajibniibjblaaGreatDoor.P4
open Go.RowKit
set_option maxRecDepth 100000

/-- parts: quotient and remainder. -/
def PartsR (L a b : Nat) (w : World) (e : Ending) (w' : World) : Prop :=
  ∃ A1 l1 c1 A2 l2 c2, e = .returned (.tuple #[.slice A1 l1 c1, .slice A2 l2 c2]) ∧ Ms w' L A1 l1 c1 (a / b) ∧ Ms w' L A2 l2 c2 (a % b) ∧ Below w.heap.size w w'
theorem ms_nil (w : World) (L : Nat) : Ms w L none 0 0 0 := ⟨Nat.zero_le _, [], ⟨rfl, Nat.le_refl _, by omega, fun _ => rfl, fun j d h => by simp at h⟩, Nm.nil⟩
theorem mod_len {w : World} {L : Nat} {A : Option Addr} {l c a b : Nat} {ys : List Int} (h : Ms w l A l c (a % b)) (hy : Nm ys b) (hm : ys.length ≤ L) (hb : 0 < b) : Ms w L A l c (a % b) := by
  obtain ⟨_, xs, hx, nx⟩ := h
  have := nx.len_le hy (Nat.le_of_lt (Nat.mod_lt _ hb))
  exact ⟨by have := hx.len; omega, xs, hx, nx⟩

theorem parts_one (w : World) {L : Nat} (A B : Option Addr) (n c d : Nat) (a b : Nat) (ha : Ms w L A n c a) (hb : Ms w L B 1 d b) (hb0 : 0 < b) (hL : L ≤ 100000000) (hL1 : 1 ≤ L) :
    Calls Tryz.prog 163 #[.slice A n c, .slice B 1 d] w (PartsR L a b w) := by
  obtain ⟨_, ys, hy, ny⟩ := hb
  obtain ⟨b1, o1, y, rfl, hy0, hb1, hc1⟩ := hy.get (j := 0) (by omega)
  obtain rfl : ys = [y] := by
    have hl := hy.len
    rcases ys with _ | ⟨z, _ | ⟨z2, zs⟩⟩
    · simp at hl
    · simp at hy0; rw [hy0]
    · simp at hl
  have hyb : y = (b : Int) := by have := ny.val_; simp [val] at this; exact this
  subst hyb
  rw [Nat.add_zero] at hc1
  have y1 := (ny.dig.get hy0).2
  have hcap := hy.cap
  have hmost := hy.most
  go_enter Tryz.func163, Tryz.ntmps163
  go_wp2_with fail
  refine (once_any _ _ _ _ a b ha.ds hb0 (by omega) (by omega)).mono ?_
  rintro e w1 ⟨A1, l1, c1, r, rfl, hr, hA1, hbe1⟩
  have hR := int_one w1 (r : Int)
  have hwa : Below w1.heap.size w1 (w1.alloc (.cells #[.int .i64 (r : Int)] 3)) := (Below.refl _ _).alloc (Nat.le_refl _) _
  have hrb : r < b := by rw [hr.out]; exact Nat.mod_lt _ hb0
  have hdr : Dig [(r : Int)] := Dig.cons.2 ⟨by omega, Dig.nil⟩
  have HA := Lib.hid hA1
  go_wp2_with fail
  refine (cut_ms _ _ _ _ _ hR hdr (v := r) (by simp [val])).mono ?_
  rintro e w2 ⟨l2, rfl, hms, rfl⟩
  go_wp2
  go_ret2
  exact ⟨_, _, _, _, _, _, rfl, HA.out.below hwa, (by rw [← hr.out]; exact hms.mono hL1), chain hbe1 hwa⟩

theorem parts_less (w : World) {L : Nat} (A B : Option Addr) (n c m d : Nat) (a b : Nat) (ha : Ms w L A n c a) (hb : Ms w L B m d b) (hm : 2 ≤ m) (hn : n ≤ m - 1) (hL : L ≤ 100000000) :
    Calls Tryz.prog 163 #[.slice A n c, .slice B m d] w (PartsR L a b w) := by
  obtain ⟨hla, xs, hx, nx⟩ := ha
  obtain ⟨hlb, ys, hy, ny⟩ := hb
  have hcap := hy.cap
  have hmost := hy.most
  have hcapx := hx.cap
  have hmostx := hx.most
  have hlt : a < b := nx.lt_of_len ny (by rw [hx.len, hy.len]; omega)
  have HD : Hid (a / b = 0) := Nat.div_eq_of_lt hlt
  have HM : Hid (a % b = a) := Nat.mod_eq_of_lt hlt
  have hb0 : Below w.heap.size w (w.alloc (.cells #[] 3)) := (Below.refl _ _).alloc (Nat.le_refl _) _
  have ho0 := OwnS.made w .i64 3 [] (by simp)
  go_enter Tryz.func163, Tryz.ntmps163
  go_wp2_with (at_builtin; refine wpList_append rfl _ _ 100 rfl 3 .i64 8 Tryz.underlying100 infoInt w.heap.size (some ⟨w.heap.size, 0, none⟩) 0 0 [] rfl ho0 A n c xs rfl (hx.below hb0) (by omega) (by omega) (by simp) ?_; intro A1 c1 w1 hown1 hbel1 _)
  go_ret2
  simp only [Nat.zero_add, List.nil_append] at hown1
  exact ⟨_, _, _, _, _, _, rfl, (by rw [HD.out]; exact ms_nil _ _), (by rw [HM.out]; exact ⟨hla, xs, hown1.rd, nx⟩), hb0.trans hbel1⟩
end Go.Proofs.YtkajibniibjblaaGreatDoor.P4

namespace Go.Proofs.YtkajibniibjblaaGreatDoor.P4
open Go.RowKit
set_option maxRecDepth 100000

theorem ms_short {w : World} {L L1 : Nat} {A : Option Addr} {l c r b : Nat} {ys : List Int} (h : Ms w L1 A l c r) (hy : Nm ys b) (hm : ys.length ≤ L) (hr : r ≤ b) : Ms w L A l c r := by
  obtain ⟨_, xs, hx, nx⟩ := h
  have := nx.len_le hy hr
  exact ⟨by have := hx.len; omega, xs, hx, nx⟩
theorem fac_one {m : Nat} (h : m ≤ 10000) : Fac 1 [(m : Int)] := .inr ⟨by omega, fun y hy => by simp at hy; omega⟩
theorem top_split {ts : List Int} {R p : Nat} (h : Nm ts R) : ∃ fn r0 : Nat, val (ts.drop p) = fn ∧ R = fn * 10000 ^ p + r0 ∧ r0 < 10000 ^ p := by
  obtain ⟨fn, hf⟩ := Int.eq_ofNat_of_zero_le (val_nonneg (h.dig.drop p))
  obtain ⟨r0, hr⟩ := Int.eq_ofNat_of_zero_le (val_nonneg (h.dig.take p))
  have hs := val_split ts p
  have hlt := val_lt (h.dig.take p)
  have hle : (ts.take p).length ≤ p := by rw [List.length_take]; omega
  have hpw := pow_le hle
  have c4 : ((10000 ^ p : Nat) : Int) = (10000 : Int) ^ p := by simp
  refine ⟨fn, r0, hf, ?_, by omega⟩
  rw [h.val_, hf, hr] at hs
  have e6 : ((fn * 10000 ^ p + r0 : Nat) : Int) = fn * 10000 ^ p + r0 := by simp
  by_cases hp : p ≤ ts.length
  · rw [show (ts.take p).length = p by rw [List.length_take]; omega] at hs
    have e7 : (10000 : Int) ^ p * fn = fn * 10000 ^ p := Int.mul_comm _ _
    omega
  · have : ts.drop p = [] := List.drop_of_length_le (by omega)
    rw [this] at hf
    have : fn = 0 := by simp [val] at hf; omega
    subst this
    simp at hs ⊢
    omega
theorem undrewN {B n : Nat} {w w' : World} (h : Below B (w.drewN n) w') : Below B w w' := ⟨h.os, h.tape, h.output, h.size, h.block⟩
set_option maxHeartbeats 20000000 in
theorem parts_main (w : World) {L : Nat} (A B : Option Addr) (n c m d : Nat) (a b : Nat) (ha : Ms w L A n c a) (hb : Ms w L B m d b) (hm : 2 ≤ m) (hn : m ≤ n) (hL : L ≤ 100000000) :
    Calls Tryz.prog 163 #[.slice A n c, .slice B m d] w (PartsR L a b w) := by
  obtain ⟨hla, xs, hx, nx⟩ := ha
  obtain ⟨hlb, ys, hy, ny⟩ := hb
  have HB : Hid (∀ w', Below w.heap.size w w' → Ms w' L B m d b) := fun w' h => ⟨hlb, ys, hy.below h, ny⟩
  obtain ⟨p, rfl⟩ : ∃ p, m = p + 2 := ⟨m - 2, by omega⟩
  obtain ⟨bx, ox, _, rfl, _, hbx, _⟩ := hx.get (j := 0) (by omega)
  obtain ⟨by_, oy, t1, rfl, ht1, hby, hct1⟩ := hy.get (j := p + 1) (by omega)
  obtain ⟨by', oy', t0, e0, ht0, _, hct0⟩ := hy.get (j := p) (by omega)
  injection e0 with e0
  injection e0 with e1 e2 e3
  subst e1 e2
  have t10 := (ny.dig.get ht1).1
  have t11 := (ny.dig.get ht1).2
  have t00 := (ny.dig.get ht0).1
  have t01 := (ny.dig.get ht0).2
  have hcap := hy.cap
  have hmost := hy.most
  have hcapx := hx.cap
  have hmostx := hx.most
  have hlx := hx.len
  have hly := hy.len
  -- the leading digit is not 0
  have htop : t1 ≠ 0 := by
    obtain ⟨zs, e, he, hne⟩ := tl_last ny.tr (fun e => by rw [e] at hly; simp at hly)
    have hl : zs.length = p + 1 := by rw [he] at hly; simp at hly; exact hly
    rw [he, ← hl] at ht1
    simp at ht1
    rw [← ht1]; exact hne
  have HT1 := Lib.hid ht1
  have HT0 := Lib.hid ht0
  obtain ⟨g0, hg0⟩ : ∃ g0 : Nat, val (ys.take p) = g0 := Int.eq_ofNat_of_zero_le (val_nonneg (ny.dig.take p))
  obtain ⟨N, hN⟩ : ∃ N, n - (p + 1) = N := ⟨_, rfl⟩
  have hNn : N < n := by omega
  have hnN : n = N + (p + 1) := by omega
  obtain ⟨R0, hR0⟩ := nx.drop N (by omega)
  have hdl : (xs.drop N).length = p + 1 := by rw [List.length_drop, hlx]; omega
  have hR0b : R0 < b := hR0.lt_of_len ny (by rw [hdl, hly]; omega)
  have HP0 : Hid (PartB N xs b N R0 (List.replicate N 0)) := PartB.start hR0.val_ hR0b
  have HR0 := Lib.hid hR0
  clear hR0 ht1 ht0
  have hxd : Rd w .i64 (some ⟨bx, ox + N, none⟩) (p + 1) (c - N) (xs.drop N) := by
    have h := Rd.drop hx (m := N) (by omega)
    rwa [show n - N = p + 1 by omega] at h
  have HXD := Lib.hid hxd
  clear hxd
  go_enter Tryz.func163, Tryz.ntmps163
  have ho0 := fun (W : World) => OwnS.made W .i64 3 [] (by simp)
  have HEN : Hid (∀ v : Int, v = (N : Int) → Value.int .i64 v = .int .i64 (N : Int)) := fun v hv => by rw [hv]
  go_wp2_with (first
    | (go_quiet (fail))
    | (at_make; refine wpList_make _ rfl _ _ 100 rfl 3 .i64 8 Tryz.underlying100 infoInt N (HEN.out _ (by omega)) (HEN.out _ (by omega)) (by omega) (by omega) ?_; intro g w1 hown1 _ hbel1' hg1 _; have hbel1 := undrewN hbel1')
    | (at_builtin; go_must (refine wpList_append rfl _ _ 100 rfl 3 .i64 8 Tryz.underlying100 infoInt w1.heap.size (some ⟨w1.heap.size, 0, none⟩) 0 0 [] rfl (ho0 w1) (some ⟨bx, ox + N, none⟩) (p + 1) (c - N) (xs.drop N) (by go_simp) (HXD.out.below (hbel1.alloc hbel1.size _)) (by omega) (by omega) (by simp) ?_; intro A1 c1 w2 hown2 hbel2 _)))
  simp only [Nat.zero_add, List.nil_append] at hown2
  have hb12 : Below w1.heap.size w1 w2 := ((Below.refl _ _).alloc (Nat.le_refl _) _).trans hbel2
  have hbW : Below w.heap.size w w2 := hbel1.trans (hb12.mono hbel1.size)
  have hownq := hown1.after hb12
  have hrest : Ms w2 L A1 (p + 1) c1 R0 := ⟨by omega, _, hown2.rd, HR0.out⟩
  have hgw : w.heap.size ≤ g := hg1
  obtain ⟨tt, htt⟩ : ∃ tt : Nat, t1 * 10000 + t0 = tt := Int.eq_ofNat_of_zero_le (by omega)
  have htt1 : 10000 ≤ tt := by omega
  have htt2 : tt ≤ 99999999 := by omega
  have hbtop : Hid (b = tt * 10000 ^ p + g0 ∧ g0 < 10000 ^ p) := by
    have hv := ny.val_
    have e1 := val_drop HT0.out
    have e2 := val_drop HT1.out
    rw [show ys.drop (p + 1 + 1) = [] from List.drop_of_length_le (by omega)] at e2
    have e3 := val_split ys p
    have hlt : (ys.take p).length = p := by rw [List.length_take]; omega
    rw [hlt, e1, e2, hg0] at e3
    have e4 := val_lt (ny.dig.take p)
    rw [hlt, hg0] at e4
    have c4 : ((10000 ^ p : Nat) : Int) = (10000 : Int) ^ p := by simp
    refine ⟨?_, by omega⟩
    have e5 : (b : Int) = tt * 10000 ^ p + g0 := by
      rw [← hv, e3, ← htt]; simp [val]; grind
    have e6 : ((tt * 10000 ^ p + g0 : Nat) : Int) = tt * 10000 ^ p + g0 := by simp
    omega
  rw [htt]
  clear hown1 hown2 hbel1 hbel2 hb12 HR0 ho0 HEN hct0 hct1 hg0 HXD hR0b hdl HT1 HT0
  go_wp2
  go_loopw [11, 12] (fun rv t wr => ∃ (j : Nat) (A1 : Option Addr) (l1 c1 R : Nat) (cs : List Int), j ≤ N ∧ t = .int .i64 ((j : Int) - 1) ∧ rv = .slice A1 l1 c1 ∧ Ms wr L A1 l1 c1 R ∧ Own wr .i64 3 g cs ∧ PartB N xs b j R cs ∧ Below w.heap.size w wr) (fun _ t _ => (intOf t + 1).toNat)
  case atStart => exact ⟨N, A1, p + 1, c1, R0, _, Nat.le_refl _, rfl, rfl, hrest, hownq, HP0.out, hbW⟩
  case round =>
    clear hrest hownq hbW HP0
    obtain ⟨wo, rfl⟩ : ∃ wo : World, wo = wr := ⟨_, rfl⟩
    obtain ⟨j, A1, l1, c1, R, cs, hj, rfl, rfl, hrest, hown, hP, hbw⟩ := hrel
    by_cases h0 : 0 < j
    · obtain ⟨i, rfl⟩ : ∃ i, j = i + 1 := ⟨j - 1, by omega⟩
      obtain ⟨bx', ox', x, e0, hxk, _, hcx⟩ := (hx.below hbw).get (j := i) (by omega)
      injection e0 with e0
      injection e0 with e1 e2 e3
      subst e1 e2
      have x0 := (nx.dig.get hxk).1
      have x1 := (nx.dig.get hxk).2
      obtain ⟨xn, rfl⟩ := Int.eq_ofNat_of_zero_le x0
      have HX := Lib.hid hxk
      clear hxk
      have hrlt := hP.r1
      obtain ⟨hl1, rs, hrs, nrs⟩ := hrest
      have hcr := hrs.cap
      have hmr := hrs.most
      have hrsl : rs.length ≤ p + 2 := by have := nrs.len_le ny (by omega); omega
      have hlrs := hrs.len
      obtain ⟨R', hR'⟩ : ∃ R' : Nat, xn + 10000 * R = R' := ⟨_, rfl⟩
      have hdz : Dig ((xn : Int) :: rs) := Dig.cons.2 ⟨by omega, nrs.dig⟩
      have hvz : val ((xn : Int) :: rs) = R' := by rw [val, nrs.val_]; omega
      have hR'b : R' < b * 10000 := by omega
      have hwa : Below wo.heap.size wo (wo.alloc (.cells #[.int .i64 (xn : Int)] 3)) := (Below.refl _ _).alloc (Nat.le_refl _) _
      have hmade := OwnS.made wo .i64 3 [(xn : Int)] (by simp)
      have HOW := Lib.hid hown
      have hgo : g < wo.heap.size := hown.lt
      clear hown
      obtain ⟨ts, hts⟩ : ∃ ts, tl ((xn : Int) :: rs) = ts := ⟨_, rfl⟩
      have nts : Nm ts R' := by rw [← hts]; exact Nm.of_dig hdz hvz
      have HLT : Hid ((tl ([(xn : Int)] ++ rs)).length = ts.length) := by show _ = _; rw [← hts]; rfl
      go_wp2_with (first
        | (at_builtin; go_must (refine wpList_append rfl _ _ 100 rfl 3 .i64 8 Tryz.underlying100 infoInt wo.heap.size (some ⟨wo.heap.size, 0, none⟩) 1 1 [(xn : Int)] rfl hmade A1 l1 c1 rs (by go_simp) (hrs.below hwa) (by omega) (by omega) (by simp) ?_; intro A2 c2 w3 hown3 hbel3 _))
        | (go_at_call 158; go_must (refine (cut_any _ _ _ _ _ hown3.rd).mono ?_; rintro e w' ⟨rfl, rfl⟩; rw [HLT.out])))
      have hrt : Rd w3 .i64 A2 ts.length c2 ts := by rw [← hts]; exact hown3.rd.tl_
      have hlz : ts.length ≤ p + 3 := by rw [← hts]; have := tl_length ((xn : Int) :: rs); simp at this; omega
      have hoff : Hid (∀ ad, A2 = some ad → 0 < ts.length → ad.block ≠ g) := fun ad e _ => by have := hown3.fresh ad e; omega
      have hbw3 : Below w.heap.size w w3 := (hbw.alloc hbw.size _).trans (hbel3.mono hbw.size)
      have HB3 : Hid (Below wo.heap.size wo w3) := hwa.trans hbel3
      have hcapt := hrt.cap
      have hmostt := hrt.most
      clear hown3 hmade hbel3 hwa hrs nrs hcr hmr hlrs hrsl hdz hvz hts hl1
      go_loopw [13, 14] (fun fv t wr => ∃ j : Nat, p ≤ j ∧ j ≤ p + 3 ∧ t = .int .i64 ((j : Int) - 1) ∧ fv = .int .i64 (val (ts.drop j)) ∧ Below w3.heap.size w3 wr) (fun _ t _ => (intOf t + 1).toNat)
      case atStart => exact ⟨p + 3, by omega, Nat.le_refl _, by go_num, by rw [List.drop_of_length_le (by omega)]; rfl, Below.refl _ _⟩
      case round =>
        obtain ⟨wq, rfl⟩ : ∃ wq : World, wq = wr := ⟨_, rfl⟩
        obtain ⟨k, hk0, hk1, rfl, rfl, hbk⟩ := hrel
        obtain ⟨F, hF⟩ : ∃ F, val (ts.drop k) = F := ⟨_, rfl⟩
        have hF0 : 0 ≤ F := by rw [← hF]; exact val_nonneg (nts.dig.drop k)
        have hF1 : F < 1000000000000 := by
          rw [← hF]
          have h1 := val_lt (nts.dig.drop k)
          have h2 := pow_le (i := (ts.drop k).length) (j := 3) (by rw [List.length_drop]; omega)
          have h3 : (10000 : Int) ^ 3 = 1000000000000 := by decide
          omega
        rw [hF]
        by_cases hkp : p < k
        · obtain ⟨i', rfl⟩ : ∃ i', k = i' + 1 := ⟨k - 1, by omega⟩
          by_cases hil : i' < ts.length
          · obtain ⟨b2, o2, y, rfl, hyk, _, hcy⟩ := (hrt.below hbk).get (j := i') hil
            have y0 := (nts.dig.get hyk).1
            have y1 := (nts.dig.get hyk).2
            have HV : Hid (val (ts.drop i') = F * 10000 + y) := by show _ = _; rw [val_drop hyk, hF]; omega
            clear hyk hF
            go_wp2_with (go_quiet (fail))
            go_roundw
            case rel => exact ⟨i', by omega, by omega, by go_num, by rw [HV.out], (by first | exact hbk | exact below_drewN hbk _ | exact below_drewN (below_drewN hbk _) _)⟩
            case measure => simp [intOf] <;> omega
          · have HV : Hid (val (ts.drop i') = F * 10000) := by
              show _ = _
              rw [List.drop_of_length_le (by omega)] at hF ⊢
              rw [← hF]; rfl
            clear hF
            go_wp2_with (go_quiet (fail))
            go_roundw
            case rel => exact ⟨i', by omega, by omega, by go_num, by rw [HV.out], (by first | exact hbk | exact below_drewN hbk _ | exact below_drewN (below_drewN hbk _) _)⟩
            case measure => simp [intOf] <;> omega
        · obtain rfl : p = k := by omega
          obtain ⟨fn, r0, hfn, hRf, hr0⟩ := top_split (p := p) nts
          rw [hF] at hfn
          subst hfn
          obtain ⟨gs1, gs2, gs3, gs4, gs5⟩ := guess hbtop.out.1 hbtop.out.2 hRf hr0 htt1 hR'b
          obtain ⟨lo0, hlo0⟩ : ∃ lo0, fn / (tt + 1) = lo0 := ⟨_, rfl⟩
          obtain ⟨hi0, hhi0⟩ : ∃ hi0, fn / tt + 1 = hi0 := ⟨_, rfl⟩
          rw [hlo0] at gs1 gs2 gs4
          rw [hhi0] at gs1 gs3 gs5
          have HLO : Hid (wrap64 ((fn : Int) / ((tt : Int) + 1)) = lo0) := by
            have e : (fn : Int) / ((tt : Int) + 1) = lo0 := by rw [← hlo0]; simp
            show _ = _; rw [e]; unfold wrap64; omega
          have HHI : Hid (wrap64 (wrap64 ((fn : Int) / (tt : Int)) + 1) = hi0) := by
            have e0 : (fn : Int) / (tt : Int) + 1 = hi0 := by rw [← hhi0]; simp
            have e : (fn : Int) / (tt : Int) = hi0 - 1 := by omega
            show _ = _; rw [e]; unfold wrap64; omega
          have hfn1 : fn < 1000000000000 := by omega
          clear hRf hr0 hlo0 hhi0 hF hF0 hF1
          go_wp2_with (go_quiet (fail))
          go_loopw [15, 16] (fun lv hv wr => ∃ lo hi : Nat, lv = .int .i64 (lo : Int) ∧ hv = .int .i64 (hi : Int) ∧ lo < hi ∧ lo ≤ 9999 ∧ hi ≤ 10001 ∧ b * lo ≤ R' ∧ R' < b * hi ∧ Below w3.heap.size w3 wr) (fun lv hv _ => (intOf hv - intOf lv).toNat)
          case atStart => exact ⟨lo0, hi0, congrArg (Value.int .i64) HLO.out, congrArg (Value.int .i64) HHI.out, gs1, gs2, gs3, gs4, gs5, (by first | exact hbk | exact below_drewN hbk _ | exact below_drewN (below_drewN hbk _) _)⟩
          case round =>
            clear HLO HHI gs1 gs2 gs3 gs4 gs5 hbk
            obtain ⟨wb, rfl⟩ : ∃ wb : World, wb = wr := ⟨_, rfl⟩
            obtain ⟨lo, hi, rfl, rfl, hlh, hlo, hhi, hbl, hbh, hbb⟩ := hrel
            have hbB := HB.out wb (hbw3.trans (hbb.mono hbw3.size))
            have hRb : Ms wb (p + 3) A2 ts.length c2 R' := ⟨hlz, ts, hrt.below hbb, nts⟩
            by_cases hgt : lo + 1 < hi
            · obtain ⟨mn, hmn⟩ : ∃ mn, (lo + hi) / 2 = mn := ⟨_, rfl⟩
              have hmI : Hid (((lo : Int) + (hi : Int)) / 2 = mn) := by show _ = _; rw [← hmn]; simp
              have hm1 : lo < mn := by omega
              have hm2 : mn < hi := by omega
              have hm10 : mn ≤ 10000 := by omega
              clear hmn
              obtain ⟨_, ysb, hyb, nyb⟩ := hbB
              have hwl : Below wb.heap.size wb (wb.alloc (.cells #[.int .i64 (mn : Int)] 3)) := (Below.refl _ _).alloc (Nat.le_refl _) _
              have hbD : Ds (wb.alloc (.cells #[.int .i64 (mn : Int)] 3)) L (some ⟨by_, oy, none⟩) (p + 2) d b := ⟨hlb, ysb, hyb.below hwl, nyb.dig, nyb.val_⟩
              have hone := int_one wb (mn : Int)
              have hfac := Lib.hid (fac_one hm10)
              have hv1 : val [(mn : Int)] = (mn : Nat) := by simp [val]
              by_cases hcmp : b * mn ≤ R'
              · have hm9 : mn ≤ 9999 := by
                  refine Decidable.by_contra fun hn => ?_
                  have h5 : b * 10000 ≤ b * mn := Nat.mul_le_mul_left _ (by omega)
                  omega
                go_wp2_with (first
                    | (go_at_call 162; rw [hmI.out]; go_must (refine (product_core _ (Lb := 1) _ _ _ _ _ _ b mn hbD (Nat.le_refl 1) _ hone hfac hv1 (by omega)).mono ?_; rintro e w4 ⟨A4, l4, c4, rfl, ⟨hl4, xs4, hx4, nx4⟩, hb4⟩))
                    | (go_at_call 158; go_must (refine (cut_ms _ _ _ _ _ hx4 nx4.dig nx4.val_).mono ?_; rintro e w' ⟨l5, rfl, hms5, rfl⟩))
                    | (go_at_call 160; go_must (refine (order_any _ _ _ _ _ _ _ (b * mn) R' hms5 (hRb.below (chain hwl hb4))).mono ?_; rintro e w5 ⟨r, rfl, hr, hb5⟩; have hr0 : r ≤ 0 := (by have := hr.2; omega); clear hr)))
                go_roundw
                case rel => exact ⟨mn, hi, rfl, rfl, hm2, hm9, hhi, hcmp, hbh, hbb.trans ((chain (chain hwl hb4) hb5).mono hbb.size)⟩
                case measure => simp [intOf] <;> omega
              · skip
                go_wp2_with (first
                    | (go_at_call 162; rw [hmI.out]; go_must (refine (product_core _ (Lb := 1) _ _ _ _ _ _ b mn hbD (Nat.le_refl 1) _ hone hfac hv1 (by omega)).mono ?_; rintro e w4 ⟨A4, l4, c4, rfl, ⟨hl4, xs4, hx4, nx4⟩, hb4⟩))
                    | (go_at_call 158; go_must (refine (cut_ms _ _ _ _ _ hx4 nx4.dig nx4.val_).mono ?_; rintro e w' ⟨l5, rfl, hms5, rfl⟩))
                    | (go_at_call 160; go_must (refine (order_any _ _ _ _ _ _ _ (b * mn) R' hms5 (hRb.below (chain hwl hb4))).mono ?_; rintro e w5 ⟨r, rfl, hr, hb5⟩; have hr0 : 0 < r := (by have := hr.2; omega); clear hr)))
                go_roundw
                case rel => exact ⟨lo, mn, rfl, rfl, hm1, hlo, by omega, hbl, by omega, hbb.trans ((chain (chain hwl hb4) hb5).mono hbb.size)⟩
                case measure => simp [intOf] <;> omega
            · obtain rfl : hi = lo + 1 := by omega
              have hrl : R' - b * lo < b := by
                have : b * (lo + 1) = b * lo + b := by rw [Nat.mul_add, Nat.mul_one]
                omega
              have hHO : Hid (Own wb .i64 3 g cs) := (HOW.out.after HB3.out).after (hbb)
              have hcl : i < cs.length := by rw [hP.len]; omega
              have hcq := hHO.out.cell (List.getElem?_eq_getElem hcl)
              have hfq := hHO.out.frozen i
              generalize cs[i] = old at hcq
              have HP := Lib.hid (hP.step (by omega) HX.out (q := lo) (r := R' - b * lo) (by
                have : ((b * lo : Nat) : Int) = b * lo := by simp
                rw [Int.mul_comm (lo : Int)]
                omega) (by omega) hrl)
              have HO := Lib.hid (hHO.out.set_ i (lo : Int))
              have hws : Below w.heap.size w (wb.setCell ⟨g, i, none⟩ (.int .i64 (lo : Int))) := (hbw3.trans (hbb.mono hbw3.size)).setCell hgw _
              have hRs : Ms (wb.setCell ⟨g, i, none⟩ (.int .i64 (lo : Int))) (p + 3) A2 ts.length c2 R' := hRb.setCell hoff.out
              obtain ⟨_, ysb, hyb, nyb⟩ := HB.out _ hws
              have hwl : Below (wb.setCell ⟨g, i, none⟩ (.int .i64 (lo : Int))).heap.size (wb.setCell ⟨g, i, none⟩ (.int .i64 (lo : Int))) ((wb.setCell ⟨g, i, none⟩ (.int .i64 (lo : Int))).alloc (.cells #[.int .i64 (lo : Int)] 3)) := (Below.refl _ _).alloc (Nat.le_refl _) _
              have hbD : Ds ((wb.setCell ⟨g, i, none⟩ (.int .i64 (lo : Int))).alloc (.cells #[.int .i64 (lo : Int)] 3)) L (some ⟨by_, oy, none⟩) (p + 2) d b := ⟨hlb, ysb, hyb.below hwl, nyb.dig, nyb.val_⟩
              have hone := int_one (wb.setCell ⟨g, i, none⟩ (.int .i64 (lo : Int))) (lo : Int)
              rw [show (wb.setCell ⟨g, i, none⟩ (.int .i64 (lo : Int))).heap.size = wb.heap.size by simp] at hone
              have hfac := Lib.hid (fac_one (m := lo) (by omega))
              have hv1 : val [(lo : Int)] = (lo : Nat) := by simp [val]
              clear hP hHO HOW
              go_wp2_with (first
                | (go_at_call 162; go_must (refine (product_core _ (Lb := 1) _ _ _ _ _ _ b lo hbD (Nat.le_refl 1) _ hone hfac hv1 (by omega)).mono ?_; rintro e w4 ⟨A4, l4, c4, rfl, hms4, hb4⟩))
                | (go_at_call 161; go_must (refine (difference_any _ _ _ _ _ _ _ R' (b * lo) (hRs.below (chain hwl hb4)) hms4 hbl (by omega)).mono ?_; rintro e w5 ⟨A5, l5, c5, rfl, hms5, hb5⟩)))
              go_roundw
              case rel => exact ⟨i, A5, l5, c5, R' - b * lo, _, by omega, rfl, rfl, ms_short hms5 ny (by omega) (by omega), (HO.out.after (chain hwl hb4)).after hb5, HP.out, chain (chain hws (chain hwl hb4)) hb5⟩
              case measure => simp [intOf] <;> omega
    · obtain rfl : j = 0 := by omega
      obtain ⟨hq1, hq2⟩ := hP.done nx.val_
      have hR := hown.rd hP.len (Nat.le_refl _) (by omega)
      have hd' := hP.dig
      have HQ := Lib.hid hq1
      have HR := Lib.hid hq2
      have HRE := Lib.hid hrest
      clear hP hown hrest hq1 hq2
      go_wp2_with (go_at_call 158; go_must (refine (cut_ms _ _ _ _ _ hR hd' HQ.out).mono ?_; rintro e w' ⟨l', rfl, hms, rfl⟩))
      go_ret2
      exact ⟨_, _, _, _, _, _, rfl, hms.mono (by omega), (by rw [← HR.out]; exact HRE.out), hbw⟩

theorem parts_any (w : World) {L : Nat} (A B : Option Addr) (n c m d : Nat) (a b : Nat) (ha : Ms w L A n c a) (hb : Ms w L B m d b) (hb0 : 0 < b) (hL : L ≤ 100000000) :
    Calls Tryz.prog 163 #[.slice A n c, .slice B m d] w (PartsR L a b w) := by
  have hm0 : m ≠ 0 := fun e => by have := hb.len_zero.1 e; omega
  rcases Nat.lt_or_ge m 2 with h | h
  · obtain rfl : m = 1 := by omega
    exact parts_one w A B n c d a b ha hb hb0 hL (by have := hb.1; omega)
  · rcases Nat.lt_or_ge n m with h2 | h2
    · exact parts_less w A B n c m d a b ha hb h (by omega) hL
    · exact parts_main w A B n c m d a b ha hb h h2 hL
end Go.Proofs.YtkajibniibjblaaGreatDoor.P4
